/-
  Typed frames and what code makes of them, over any program: part 1. Conditions: none.
-/
import Derived.WalkKit
import Derived.Below
import Derived.Maps.AppendAt
import Derived.Deep.Draws
import Derived.OrdersHeld
namespace Go.Ab
open Go.RowKit

/-- The data of one cell. 'lit': a number, a bool, a string. 'sl es': a slice, each element by its cells. The others occur in frames alone. -/
inductive T where
  | lit (v : Value)
  | sl (es : List (List T))
  | nil
  | row (r : Nat)
  | ptr (o off : Nat)
  | ep (e : List T) (off : Nat)
  | rp (r k i off : Nat)
  | any
  deriving Inhabited

/-- A plain value of one cell. -/
def plain : Value → Bool
  | .int k n => decide (k.min ≤ n) && decide (n ≤ k.max)
  | .bool _ => true
  | .string s => decide (s.size ≤ maxLen)
  | _ => false

mutual
/-- In world w the value v holds the data t; the blocks of its slices are F, each as often as it is met. -/
inductive Rep (w : World) : Value → T → List Nat → Prop
  | lit {v : Value} (h : plain v = true) : Rep w v (.lit v) []
  | nil {a : Option Addr} {c : Nat} (hc : c ≤ maxLen) : Rep w (.slice a 0 c) (.sl []) []
  | cons {b off n c k : Nat} {es : List (List T)} {xs : List Value} {F : List Nat} (hn : es.length = n) (h0 : 0 < n) (hk0 : 0 < k) (hk : ∀ e ∈ es, e.length = k) (hc : n ≤ c) (hm : c ≤ maxLen)
      (hx : xs.length = n * k) (hcell : ∀ j u, xs[j]? = some u → w.cell? ⟨b, off + j, none⟩ = some u) (hr : RepL w xs es.flatten F) : Rep w (.slice (some ⟨b, off, none⟩) n c) (.sl es) (b :: F)
inductive RepL (w : World) : List Value → List T → List Nat → Prop
  | nil : RepL w [] [] []
  | cons {v : Value} {t : T} {F : List Nat} {vs : List Value} {ts : List T} {G : List Nat} (h : Rep w v t F) (hs : RepL w vs ts G) : RepL w (v :: vs) (t :: ts) (F ++ G)
end

theorem RepL.length {w : World} {vs : List Value} {ts : List T} {F : List Nat} (h : RepL w vs ts F) : vs.length = ts.length :=
  RepL.rec (motive_1 := fun _ _ _ _ => True) (motive_2 := fun vs ts _ _ => vs.length = ts.length) (fun _ => trivial) (fun _ => trivial) (fun _ _ _ _ _ _ _ _ _ _ => trivial) rfl
    (fun _ _ _ ih => by simp [ih]) h

theorem cell?_lt {w : World} {a : Addr} {u : Value} (h : w.cell? a = some u) : a.block < w.heap.size := by
  unfold World.cell? at h
  split at h
  · rename_i c _ _ hb
    exact (Array.getElem?_eq_some_iff.1 hb).1
  · cases h

theorem Rep.lt {w : World} {v : Value} {t : T} {F : List Nat} (h : Rep w v t F) : ∀ b ∈ F, b < w.heap.size :=
  Rep.rec (motive_1 := fun _ _ F _ => ∀ b ∈ F, b < w.heap.size) (motive_2 := fun _ _ F _ => ∀ b ∈ F, b < w.heap.size) (fun _ => by simp) (fun _ => by simp)
    (fun {b off n c k es xs F} hn h0 hk0 hk hc hm hx hcell hr ih => by
      intro x hx'
      rcases List.mem_cons.1 hx' with rfl | hx'
      · have hp : 0 < xs.length := by rw [hx]; exact Nat.mul_pos h0 hk0
        exact cell?_lt (hcell 0 xs[0] (List.getElem?_eq_getElem hp))
      · exact ih x hx')
    (by simp) (fun _ _ ih1 ih2 b hb => (List.mem_append.1 hb).elim (ih1 b) (ih2 b)) h
theorem RepL.lt {w : World} {vs : List Value} {ts : List T} {F : List Nat} (h : RepL w vs ts F) : ∀ b ∈ F, b < w.heap.size :=
  RepL.rec (motive_1 := fun _ _ F _ => ∀ b ∈ F, b < w.heap.size) (motive_2 := fun _ _ F _ => ∀ b ∈ F, b < w.heap.size) (fun _ => by simp) (fun _ => by simp)
    (fun {b off n c k es xs F} hn h0 hk0 hk hc hm hx hcell hr ih => by
      intro x hx'
      rcases List.mem_cons.1 hx' with rfl | hx'
      · have hp : 0 < xs.length := by rw [hx]; exact Nat.mul_pos h0 hk0
        exact cell?_lt (hcell 0 xs[0] (List.getElem?_eq_getElem hp))
      · exact ih x hx')
    (by simp) (fun _ _ ih1 ih2 b hb => (List.mem_append.1 hb).elim (ih1 b) (ih2 b)) h

/-- The data stay while the blocks stay. -/
theorem Rep.frame {w w' : World} {v : Value} {t : T} {F : List Nat} (h : Rep w v t F) (hF : ∀ b ∈ F, w'.heap[b]? = w.heap[b]?) : Rep w' v t F :=
  Rep.rec (motive_1 := fun v t F _ => (∀ b ∈ F, w'.heap[b]? = w.heap[b]?) → Rep w' v t F) (motive_2 := fun vs ts F _ => (∀ b ∈ F, w'.heap[b]? = w.heap[b]?) → RepL w' vs ts F)
    (fun h _ => .lit h) (fun h _ => .nil h)
    (fun hn h0 hk0 hk hc hm hx hcell _ ih hF => .cons hn h0 hk0 hk hc hm hx (fun j u hu => (World.cell?_of_block (hF _ (List.mem_cons_self ..))).trans (hcell j u hu)) (ih fun b hb => hF b (List.mem_cons_of_mem _ hb)))
    (fun _ => .nil) (fun _ _ ih1 ih2 hF => .cons (ih1 fun b hb => hF b (List.mem_append_left _ hb)) (ih2 fun b hb => hF b (List.mem_append_right _ hb))) h hF
theorem RepL.frame {w w' : World} {vs : List Value} {ts : List T} {F : List Nat} (h : RepL w vs ts F) (hF : ∀ b ∈ F, w'.heap[b]? = w.heap[b]?) : RepL w' vs ts F :=
  RepL.rec (motive_1 := fun v t F _ => (∀ b ∈ F, w'.heap[b]? = w.heap[b]?) → Rep w' v t F) (motive_2 := fun vs ts F _ => (∀ b ∈ F, w'.heap[b]? = w.heap[b]?) → RepL w' vs ts F)
    (fun h _ => .lit h) (fun h _ => .nil h)
    (fun hn h0 hk0 hk hc hm hx hcell _ ih hF => .cons hn h0 hk0 hk hc hm hx (fun j u hu => (World.cell?_of_block (hF _ (List.mem_cons_self ..))).trans (hcell j u hu)) (ih fun b hb => hF b (List.mem_cons_of_mem _ hb)))
    (fun _ => .nil) (fun _ _ ih1 ih2 hF => .cons (ih1 fun b hb => hF b (List.mem_append_left _ hb)) (ih2 fun b hb => hF b (List.mem_append_right _ hb))) h hF

theorem RepL.append {w : World} {vs vs' : List Value} {ts ts' : List T} {F G : List Nat} (h : RepL w vs ts F) (h' : RepL w vs' ts' G) : RepL w (vs ++ vs') (ts ++ ts') (F ++ G) :=
  RepL.rec (motive_1 := fun _ _ _ _ => True) (motive_2 := fun vs ts F _ => RepL w (vs ++ vs') (ts ++ ts') (F ++ G)) (fun _ => trivial) (fun _ => trivial) (fun _ _ _ _ _ _ _ _ _ _ => trivial)
    h' (fun hv _ _ ih => by simpa using RepL.cons hv ih) h

theorem RepL.get {w : World} : ∀ {vs : List Value} {ts : List T} {F : List Nat}, RepL w vs ts F → ∀ {j : Nat} {t : T}, ts[j]? = some t → ∃ v G, vs[j]? = some v ∧ Rep w v t G ∧ ∀ b ∈ G, b ∈ F := by
  intro vs
  induction vs with
  | nil => intro ts F h j t ht; cases h; simp at ht
  | cons v vs ih =>
    intro ts F h j t ht
    cases h with
    | cons h hs =>
      cases j with
      | zero => simp at ht; subst ht; exact ⟨v, _, rfl, h, fun b hb => List.mem_append_left _ hb⟩
      | succ j =>
        obtain ⟨u, G, h1, h2, h3⟩ := ih hs (j := j) (t := t) (by simpa using ht)
        exact ⟨u, G, by simpa using h1, h2, fun b hb => List.mem_append_right _ (h3 b hb)⟩

theorem RepL.take {w : World} : ∀ {vs : List Value} {ts : List T} {F : List Nat}, RepL w vs ts F → ∀ n, ∃ G H, RepL w (vs.take n) (ts.take n) G ∧ RepL w (vs.drop n) (ts.drop n) H ∧ F = G ++ H := by
  intro vs
  induction vs with
  | nil => intro ts F h n; cases h; exact ⟨[], [], by simpa using .nil, by simpa using .nil, rfl⟩
  | cons v vs ih =>
    intro ts F h n
    cases h with
    | cons h hs =>
      cases n with
      | zero => exact ⟨[], _, .nil, .cons h hs, rfl⟩
      | succ n =>
        obtain ⟨G, H, h1, h2, h3⟩ := ih hs n
        exact ⟨_, H, .cons h h1, h2, by rw [h3, List.append_assoc]⟩

/-- Element i of a flattened list of lists of one length. -/
theorem flatten_get {es : List (List T)} {k : Nat} (hk : ∀ e ∈ es, e.length = k) {i : Nat} {e : List T} (he : es[i]? = some e) : (es.flatten.drop (i * k)).take k = e := by
  induction es generalizing i with
  | nil => simp at he
  | cons x xs ih =>
    have hx : x.length = k := hk x (List.mem_cons_self ..)
    cases i with
    | zero => simp at he; subst he; simp [hx]
    | succ i =>
      have he' : xs[i]? = some e := by simpa using he
      have := ih (fun e he => hk e (List.mem_cons_of_mem _ he)) he'
      have h1 : (i + 1) * k = i * k + k := Nat.succ_mul i k
      have h2 : (i + 1) * k - x.length = i * k := by rw [h1, hx]; omega
      rw [List.flatten_cons, List.drop_append, h2, List.drop_eq_nil_of_le (by rw [hx, h1]; omega), List.nil_append]
      exact this

theorem flatten_length {es : List (List T)} {k : Nat} (hk : ∀ e ∈ es, e.length = k) : es.flatten.length = es.length * k := by
  induction es with
  | nil => simp
  | cons x xs ih =>
    rw [List.flatten_cons, List.length_append, ih (fun e he => hk e (List.mem_cons_of_mem _ he)), hk x (List.mem_cons_self ..), List.length_cons, Nat.succ_mul, Nat.add_comm]
end Go.Ab
set_option linter.unusedVariables false
namespace Go.V
open Go.Ab Go.RowKit

/-- Types of data: a struct is a pair of its first field and the rest. -/
inductive Ty where
  | int (k : IntKind)
  | bool
  | str
  | sl (t : Ty)
  | pair (a b : Ty)
  deriving DecidableEq

@[reducible] def den : Ty → Type
  | .int _ => Int
  | .bool => Bool
  | .str => ByteArray
  | .sl t => List (den t)
  | .pair a b => den a × den b
/-- The cells of data. -/
def cells : (t : Ty) → den t → List T
  | .int k, x => [.lit (.int k x)]
  | .bool, x => [.lit (.bool x)]
  | .str, x => [.lit (.string x)]
  | .sl t, x => [.sl (List.map (cells t) x)]
  | .pair a b, x => cells a x.1 ++ cells b x.2
/-- The one cell of data of a simple type. -/
def leafT : (t : Ty) → den t → T
  | .int k, x => .lit (.int k x)
  | .bool, x => .lit (.bool x)
  | .str, x => .lit (.string x)
  | .sl t, x => .sl (List.map (cells t) x)
  | .pair _ _, _ => .any
def castTy (a b : Ty) (x : den a) : Option (den b) := if h : a = b then some (h ▸ x) else none

/-- A cell of a frame: data; nil; a row or a window of this frame; a pointer to a box; a pointer into data; a pointer into a row; a slice within an element of a window or of a row; a pointer into such a slice (element j, of m cells, cell p); a function with a pointer to a box; unknown. -/
inductive C where
  | v (t : Ty) (x : den t)
  | nil
  | row (r : Nat)
  | ptr (o off : Nat)
  | ep (t : Ty) (x : den t) (off : Nat)
  | rp (r k i off : Nat)
  | sub (r k i off : Nat) (t : Ty) (x : List (den t))
  | ip (r k i off m j p : Nat)
  | clo (g o : Nat)
  | any
inductive A where
  | one (c : C)
  | agg (cs : List C)
/-- What a slot holds; 'un': its operation was passed over. -/
inductive S where
  | val (x : A)
  | tup (xs : List A)
  | un
/-- An object of a frame: a variable in memory; a row that the frame may append to; a window: a slice all of whose memory the frame may write. -/
inductive O where
  | box (cs : List C)
  | row (e k : Nat) (t : Ty) (l : List (den t)) (deep : Bool)
  | win (k : Nat) (t : Ty) (l : List (den t))
/-- A frame: each slot and each object with the number of its last change. -/
structure F where
  ctr : Nat
  fr : List (Nat × Nat × S)
  ob : List (Nat × Nat × O)

def split : (t : Ty) → den t → List C
  | .int k, x => [.v (.int k) x]
  | .bool, x => [.v .bool x]
  | .str, x => [.v .str x]
  | .sl t, x => [.v (.sl t) x]
  | .pair a b, x => split a x.1 ++ split b x.2
def A.cells : A → List C
  | .one c => [c]
  | .agg cs => cs

def F.look (f : F) (s : Nat) : Option S := (f.fr.find? fun e => e.1 == s).map (·.2.2)
def F.obj (f : F) (o : Nat) : Option O := (f.ob.find? fun e => e.1 == o).map (·.2.2)
def F.put (f : F) (d : Option Nat) (x : S) : F :=
  match d with
  | some d => ⟨f.ctr + 1, (d, f.ctr, x) :: f.fr.filter (fun e => e.1 != d), f.ob⟩
  | none => f
def constS : Value → Option S
  | .int k n => if plain (.int k n) then some (.val (.one (.v (.int k) n))) else none
  | .bool b => some (.val (.one (.v .bool b)))
  | .string s => if plain (.string s) then some (.val (.one (.v .str s))) else none
  | .slice none 0 0 => some (.val (.one .nil))
  | .pointer none => some (.val (.one .any))
  | _ => none
def F.get (f : F) : Operand → Option S
  | .tmp t => f.look t
  | .const v => constS v
  | _ => none
def F.getC (f : F) (x : Operand) : Option C :=
  match f.get x with
  | some (.val (.one c)) => some c
  | _ => none

/-- A cell as data. -/
def F.data (f : F) (t : Ty) : C → Option (den t)
  | .v t' x => castTy t' t x
  | .nil => match t with
    | .sl _ => some []
    | _ => none
  | .row r => match f.obj r with
    | some (.row _ _ t' l _) => castTy (.sl t') t l
    | some (.win _ t' l) => castTy (.sl t') t l
    | _ => none
  | .sub _ _ _ _ t' l => castTy (.sl t') t l
  | _ => none
/-- Cells as data, and what is left of them. -/
def F.dataL (f : F) : (t : Ty) → List C → Option (den t × List C)
  | .pair a b, cs => match F.dataL f a cs with
    | some (x, cs1) => match F.dataL f b cs1 with
      | some (y, cs2) => some ((x, y), cs2)
      | none => none
    | none => none
  | .int k, c :: cs => (f.data (.int k) c).map fun x => (x, cs)
  | .bool, c :: cs => (f.data .bool c).map fun x => (x, cs)
  | .str, c :: cs => (f.data .str c).map fun x => (x, cs)
  | .sl t, c :: cs => (f.data (.sl t) c).map fun x => (x, cs)
  | _, [] => none

/-! ### objects -/
def C.names (d : Nat) : C → Bool
  | .row r => r == d
  | .ptr o _ => o == d
  | .rp r _ _ _ => r == d
  | .sub r _ _ _ _ _ => r == d
  | .ip r _ _ _ _ _ _ => r == d
  | .clo _ o => o == d
  | _ => false
def A.names (d : Nat) : A → Bool
  | .one c => c.names d
  | .agg cs => cs.any (C.names d)
def S.names (d : Nat) : S → Bool
  | .val x => x.names d
  | .tup xs => xs.any (A.names d)
  | .un => false
def O.names (d : Nat) : O → Bool
  | .box cs => cs.any (C.names d)
  | _ => false
def scrubC (d : Nat) (c : C) : C := if c.names d then .any else c
def O.scrub (d : Nat) : O → O
  | .box cs => .box (cs.map (scrubC d))
  | x => x
/-- Forget all that names object d. -/
def F.scrub (f : F) (d : Nat) : F :=
  ⟨f.ctr + 1, f.fr.filter (fun e => !e.2.2.names d), (f.ob.filter fun e => e.1 != d).map fun e => if e.2.2.names d then (e.1, f.ctr, e.2.2.scrub d) else e⟩
/-- A new object d. -/
def F.add (f : F) (d : Nat) (o : O) : F := ⟨(f.scrub d).ctr + 1, (f.scrub d).fr, (d, (f.scrub d).ctr, o) :: (f.scrub d).ob⟩
def F.newOb (f : F) (d : Nat) (o : O) (c : C) : F := (f.add d o).put (some d) (.val (.one c))
def frzC (r : Nat) (t : Ty) (l : List (den t)) : C → C
  | .row r' => if r' = r then .v (.sl t) l else .row r'
  | .rp r' k i off => if r' = r then .any else .rp r' k i off
  | .sub r' k i off t' x => if r' = r then .any else .sub r' k i off t' x
  | .ip r' k i off m j p => if r' = r then .any else .ip r' k i off m j p
  | c => c
def A.frz (r : Nat) (t : Ty) (l : List (den t)) : A → A
  | .one c => .one (frzC r t l c)
  | .agg cs => .agg (cs.map (frzC r t l))
def S.frz (r : Nat) (t : Ty) (l : List (den t)) : S → S
  | .val x => .val (x.frz r t l)
  | .tup xs => .tup (xs.map (A.frz r t l))
  | .un => .un
def O.frz (r : Nat) (t : Ty) (l : List (den t)) : O → O
  | .box cs => .box (cs.map (frzC r t l))
  | x => x
/-- Row r is written no more: it is data. -/
def F.frzRow (f : F) (r : Nat) : F :=
  match f.obj r with
  | some (.row _ _ t l _) =>
    ⟨f.ctr + 1, f.fr.map (fun e => if e.2.2.names r then (e.1, f.ctr, e.2.2.frz r t l) else e), (f.ob.filter fun e => e.1 != r).map fun e => if e.2.2.names r then (e.1, f.ctr, e.2.2.frz r t l) else e⟩
  | _ => f
def F.frzAll (f : F) (ids : List Nat) : F := ids.foldl F.frzRow f
/-- Object o is another now. -/
def F.setOb (f : F) (o : Nat) (x : O) : F := ⟨f.ctr + 1, f.fr, f.ob.map fun e => if e.1 = o then (o, f.ctr, x) else e⟩
/-- Cells that are moved into a row: the rows that go with them; is all of it the row's own? -/
def mvC (f : F) : C → Option (List Nat × Bool)
  | .v (.sl _) _ => some ([], false)
  | .v _ _ => some ([], true)
  | .nil => some ([], true)
  | .row r => match f.obj r with
    | some (.row _ _ _ _ deep) => some ([r], deep)
    | _ => none
  | _ => none
def mvCs (f : F) : List C → Option (List Nat × Bool)
  | [] => some ([], true)
  | c :: cs => match mvC f c, mvCs f cs with
    | some (i1, d1), some (i2, d2) => some (i1 ++ i2, d1 && d2)
    | _, _ => none
/-- The type of data of fields, by the types of theirs. -/
def tysOf (g : TypeId → Option Ty) : List Field → Option Ty
  | [] => none
  | f :: fs => match g f.type with
    | some a => match fs with
      | [] => some a
      | _ :: _ => match tysOf g fs with
        | some b => some (.pair a b)
        | none => none
    | none => none
/-- The type of data of a Go type. -/
def tyOf (P : Program) : Nat → TypeId → Option Ty
  | 0 => fun _ => none
  | n + 1 => fun t =>
    match P.underlying t with
    | some (.int k) => some (.int k)
    | some .bool => some .bool
    | some .string => some .str
    | some (.slice e) => (tyOf P n e).map .sl
    | some (.struct fs) => tysOf (tyOf P n) fs.toList
    | _ => none
def flat : Ty → Bool
  | .sl _ => false
  | .pair a b => flat a && flat b
  | _ => true
def zC : Value → C
  | .int k n => if plain (.int k n) then .v (.int k) n else .any
  | .bool b => .v .bool b
  | .string s => if plain (.string s) then .v .str s else .any
  | .slice none 0 0 => .nil
  | _ => .any
def C.solid : C → Bool
  | .clo _ _ => false
  | _ => true

def C.isSub : C → Bool
  | .sub _ _ _ _ _ _ => true
  | .ip _ _ _ _ _ _ _ => true
  | _ => false
def A.isSub : A → Bool
  | .one c => c.isSub
  | .agg cs => cs.any C.isSub
def S.isSub : S → Bool
  | .val x => x.isSub
  | .tup xs => xs.any A.isSub
  | .un => false
def O.isSub : O → Bool
  | .box cs => cs.any C.isSub
  | _ => false
def noSubC (c : C) : C := if c.isSub then .any else c
def O.noSub : O → O
  | .box cs => .box (cs.map noSubC)
  | x => x
/-- Slices within windows are no longer spoken of. -/
def F.noSubs (f : F) : F := ⟨f.ctr + 1, f.fr.filter (fun e => !e.2.2.isSub), f.ob.map fun e => if e.2.2.isSub then (e.1, f.ctr, e.2.2.noSub) else e⟩

/-! ### the state at a place of the code, by a shape -/
inductive CT where
  | var (t : Ty)
  | nil
  | row (r : Nat)
  | ptr (o off : Nat)
  | any
inductive ST where
  | keep
  | one (c : CT)
  | agg (cs : List CT)
inductive OT where
  | keep
  | box (cs : List CT)
  | row (e k : Nat) (t : Ty) (deep : Bool)
  | win (k : Nat) (t : Ty)
structure Sh where
  fr : List (Nat × ST)
  ob : List (Nat × OT)
def CT.tys : CT → List Ty
  | .var t => [t]
  | _ => []
def ST.tys : ST → List Ty
  | .keep => []
  | .one c => c.tys
  | .agg cs => cs.flatMap CT.tys
def OT.tys : OT → List Ty
  | .keep => []
  | .box cs => cs.flatMap CT.tys
  | .row _ _ t _ => [.sl t]
  | .win _ t => [.sl t]
def Sh.tys (h : Sh) : List Ty := h.fr.flatMap (·.2.tys) ++ h.ob.flatMap (·.2.tys)
/-- What varies, as one tuple. -/
@[reducible] def denV : List Ty → Type
  | [] => Unit
  | [t] => den t
  | t :: t' :: ts => den t × denV (t' :: ts)
/-- A typed value. -/
def TV : Type := (t : Ty) × den t
def toTVs : (ts : List Ty) → denV ts → List TV
  | [], _ => []
  | [t], x => [⟨t, x⟩]
  | t :: t' :: ts, x => ⟨t, x.1⟩ :: toTVs (t' :: ts) x.2
def ofTVs : (ts : List Ty) → List TV → Option (denV ts)
  | [], [] => some ()
  | [t], [x] => castTy x.1 t x.2
  | t :: t' :: ts, x :: xs => match castTy x.1 t x.2, ofTVs (t' :: ts) xs with
    | some y, some ys => some (y, ys)
    | _, _ => none
  | _, _ => none
def CT.inj : CT → List TV → Option (C × List TV)
  | .var t, x :: xs => (castTy x.1 t x.2).map fun y => (.v t y, xs)
  | .var _, [] => none
  | .nil, xs => some (.nil, xs)
  | .row r, xs => some (.row r, xs)
  | .ptr o off, xs => some (.ptr o off, xs)
  | .any, xs => some (.any, xs)
def injL : List CT → List TV → Option (List C × List TV)
  | [], xs => some ([], xs)
  | c :: cs, xs => match c.inj xs with
    | some (y, ys) => match injL cs ys with
      | some (zs, us) => some (y :: zs, us)
      | none => none
    | none => none
def injFr (f : F) : List (Nat × ST) → List TV → Option (List (Nat × Nat × S) × List TV)
  | [], xs => some ([], xs)
  | (s, .keep) :: hs, xs => match f.fr.find? fun e => e.1 == s with
    | some e => match injFr f hs xs with
      | some (r, ys) => some (e :: r, ys)
      | none => none
    | none => none
  | (s, .one c) :: hs, xs => match c.inj xs with
    | some (y, ys) => match injFr f hs ys with
      | some (r, zs) => some ((s, f.ctr, .val (.one y)) :: r, zs)
      | none => none
    | none => none
  | (s, .agg cs) :: hs, xs => match injL cs xs with
    | some (y, ys) => match injFr f hs ys with
      | some (r, zs) => some ((s, f.ctr, .val (.agg y)) :: r, zs)
      | none => none
    | none => none
def injOb (f : F) : List (Nat × OT) → List TV → Option (List (Nat × Nat × O) × List TV)
  | [], xs => some ([], xs)
  | (o, .keep) :: hs, xs => match f.ob.find? fun e => e.1 == o with
    | some e => match injOb f hs xs with
      | some (r, ys) => some (e :: r, ys)
      | none => none
    | none => none
  | (o, .box cs) :: hs, xs => match injL cs xs with
    | some (y, ys) => match injOb f hs ys with
      | some (r, zs) => some ((o, f.ctr, .box y) :: r, zs)
      | none => none
    | none => none
  | (o, .row e k t deep) :: hs, x :: xs => match castTy x.1 (.sl t) x.2, injOb f hs xs with
    | some l, some (r, zs) => some ((o, f.ctr, .row e k t l deep) :: r, zs)
    | _, _ => none
  | (o, .win k t) :: hs, x :: xs => match castTy x.1 (.sl t) x.2, injOb f hs xs with
    | some l, some (r, zs) => some ((o, f.ctr, .win k t l) :: r, zs)
    | _, _ => none
  | _, _ => none
/-- The state of that shape over f, with these values. -/
def F.inj (f : F) (h : Sh) (x : denV h.tys) : Option F :=
  match injFr f h.fr (toTVs h.tys x) with
  | some (fr, xs) => match injOb f h.ob xs with
    | some (ob, []) => some ⟨f.ctr + 1, fr, ob⟩
    | _ => none
  | none => none
def CT.prj : CT → C → Option (List TV)
  | .var t, .v t' x => (castTy t' t x).map fun y => [⟨t, y⟩]
  | .var (.sl t), .nil => some [⟨.sl t, []⟩]
  | .nil, .nil => some []
  | .row r, .row r' => if r = r' then some [] else none
  | .ptr o off, .ptr o' off' => if o = o' ∧ off = off' then some [] else none
  | .any, _ => some []
  | _, _ => none
def prjL : List CT → List C → Option (List TV)
  | [], [] => some []
  | c :: cs, x :: xs => match c.prj x, prjL cs xs with
    | some a, some b => some (a ++ b)
    | _, _ => none
  | _, _ => none
def prjFr (f g : F) : List (Nat × ST) → Option (List TV)
  | [] => some []
  | (s, h) :: hs =>
    match g.fr.find? (fun e => e.1 == s), prjFr f g hs with
    | some (_, n, x), some ys =>
      match h, x with
      | .keep, _ => match f.fr.find? fun e => e.1 == s with
        | some (_, m, _) => if m = n ∧ n < f.ctr then some ys else none
        | none => none
      | .one c, .val (.one y) => (c.prj y).map (· ++ ys)
      | .agg cs, .val (.agg zs) => (prjL cs zs).map (· ++ ys)
      | _, _ => none
    | _, _ => none
def prjOb (f g : F) : List (Nat × OT) → Option (List TV)
  | [] => some []
  | (o, h) :: hs =>
    match g.ob.find? (fun e => e.1 == o), prjOb f g hs with
    | some (_, n, x), some ys =>
      match h, x with
      | .keep, _ => match f.ob.find? fun e => e.1 == o with
        | some (_, m, _) => if m = n ∧ n < f.ctr then some ys else none
        | none => none
      | .box cs, .box zs => (prjL cs zs).map (· ++ ys)
      | .row e k t deep, .row e' k' t' l deep' => if e = e' ∧ k = k' ∧ t = t' ∧ (deep = true → (deep' || flat t') = true) then some (⟨.sl t', l⟩ :: ys) else none
      | .win k t, .win k' t' l => if k = k' ∧ t = t' then some (⟨.sl t', l⟩ :: ys) else none
      | _, _ => none
    | _, _ => none
/-- What varies in g, seen from f. -/
def F.prj (f g : F) (h : Sh) : Option (denV h.tys) :=
  match prjFr f g h.fr, prjOb f g h.ob with
  | some xs, some ys => ofTVs h.tys (xs ++ ys)
  | _, _ => none

/-! ### steps that forget -/
/-- Keep these slots and objects; data out of a row; another number for an object; nil as an empty row (in a slot's cell; in a box's cell). -/
inductive Wk where
  | pick (ss os : List Nat)
  | frz (r : Nat)
  | ren (d e : Nat)
  | nilS (s j a e k : Nat) (t : Ty)
  | nilB (o j a e k : Nat) (t : Ty)
def renC (d e : Nat) : C → C
  | .row r => .row (if r = d then e else r)
  | .ptr o off => .ptr (if o = d then e else o) off
  | .rp r k i off => .rp (if r = d then e else r) k i off
  | .sub r k i off t x => .sub (if r = d then e else r) k i off t x
  | .ip r k i off m j p => .ip (if r = d then e else r) k i off m j p
  | .clo g o => .clo g (if o = d then e else o)
  | c => c
def A.ren (d e : Nat) : A → A
  | .one c => .one (renC d e c)
  | .agg cs => .agg (cs.map (renC d e))
def S.ren (d e : Nat) : S → S
  | .val x => .val (x.ren d e)
  | .tup xs => .tup (xs.map (A.ren d e))
  | .un => .un
def O.ren (d e : Nat) : O → O
  | .box cs => .box (cs.map (renC d e))
  | x => x
def F.unused (f : F) (e : Nat) : Bool := (f.fr.all fun x => !x.2.2.names e) && f.ob.all fun x => x.1 != e && !x.2.2.names e
/-- Numbers of objects that a caller has given. -/
def pinned (o : Nat) : Bool := Nat.ble 1000000 o
def A.setC (x : A) (j : Nat) (c : C) : A :=
  match x with
  | .one d => if j = 0 then .one c else .one d
  | .agg cs => .agg (cs.set j c)
def tyLn : Ty → Nat
  | .pair a b => tyLn a + tyLn b
  | _ => 1
def F.wk (f : F) : Wk → Option F
  | .pick ss os => some ⟨f.ctr, f.fr.filter (fun e => ss.contains e.1), f.ob.filter fun e => os.contains e.1⟩
  | .frz r => some (f.frzRow r)
  | .ren d e => if f.unused e = true ∧ pinned d = false ∧ pinned e = false then
      some ⟨f.ctr + 1, f.fr.map (fun x => if x.2.2.names d then (x.1, f.ctr, x.2.2.ren d e) else x), f.ob.map fun x => if x.1 = d then (e, f.ctr, x.2.2.ren d e) else if x.2.2.names d then (x.1, f.ctr, x.2.2.ren d e) else x⟩ else none
  | .nilS s j a e k t =>
    match f.look s with
    | some (.val x) => match x.cells[j]? with
      | some .nil => if f.unused a = true ∧ pinned a = false ∧ 0 < k ∧ tyLn t = k then some ((⟨f.ctr + 1, f.fr, (a, f.ctr, .row e k t [] true) :: f.ob⟩ : F).put (some s) (.val (x.setC j (.row a)))) else none
      | _ => none
    | _ => none
  | .nilB o j a e k t =>
    match f.obj o with
    | some (.box cs) => match cs[j]? with
      | some .nil => if f.unused a = true ∧ pinned a = false ∧ 0 < k ∧ tyLn t = k then some ((⟨f.ctr + 1, f.fr, (a, f.ctr, .row e k t [] true) :: f.ob⟩ : F).setOb o (.box (cs.set j (.row a)))) else none
      | _ => none
    | _ => none
def F.wks (f : F) : List Wk → Option F
  | [] => some f
  | x :: xs => match f.wk x with
    | some g => g.wks xs
    | none => none

/-! ### which steps bring a state to a shape (no proof leans on this) -/
def CT.pairs : CT → C → List (Nat × Nat)
  | .row a, .row r => [(r, a)]
  | .ptr a _, .ptr o _ => [(o, a)]
  | _, _ => []
def pairsL : List CT → List C → List (Nat × Nat)
  | c :: cs, x :: xs => c.pairs x ++ pairsL cs xs
  | _, _ => []
def ST.pairs (g : F) (s : Nat) : ST → List (Nat × Nat)
  | .keep => match g.look s with
    | some (.val x) => x.cells.flatMap fun c => match c with
      | .row r => [(r, r)]
      | .ptr o _ => [(o, o)]
      | .clo _ o => [(o, o)]
      | .rp r _ _ _ => [(r, r)]
      | _ => []
    | _ => []
  | .one c => match g.look s with
    | some (.val x) => pairsL [c] x.cells
    | _ => []
  | .agg cs => match g.look s with
    | some (.val x) => pairsL cs x.cells
    | _ => []
def srcOf (ps : List (Nat × Nat)) (a : Nat) : Nat := ((ps.find? fun p => p.2 == a).map (·.1)).getD a
def obPairs (g : F) : List (Nat × OT) → List (Nat × Nat) → List (Nat × Nat)
  | [], ps => ps
  | (a, .box cs) :: hs, ps => match g.obj (srcOf ps a) with
    | some (.box xs) => obPairs g hs (ps ++ pairsL cs xs)
    | _ => obPairs g hs ps
  | _ :: hs, ps => obPairs g hs ps
def CT.nils (h : Sh) (j : Nat) : CT → C → List (Nat × Nat × Nat × Nat × Ty)
  | .row a, .nil => match h.ob.find? fun e => e.1 == a with
    | some (_, .row e k t _) => [(j, a, e, k, t)]
    | _ => []
  | _, _ => []
def nilsL (h : Sh) : Nat → List CT → List C → List (Nat × Nat × Nat × Nat × Ty)
  | j, c :: cs, x :: xs => c.nils h j x ++ nilsL h (j + 1) cs xs
  | _, _, _ => []
def ST.cts : ST → List CT
  | .keep => []
  | .one c => [c]
  | .agg cs => cs
def mkWk (g : F) (h : Sh) : List Wk :=
  let ps := obPairs g h.ob (h.fr.flatMap fun e => e.2.pairs g e.1)
  let src := (h.ob.filter fun e => match e.2 with
    | .row _ _ _ _ => pinned e.1 || (ps.any fun p => p.2 == e.1) || h.ob.any fun b => match b.2, g.obj b.1 with
      | .keep, some x => x.names e.1
      | _, _ => false
    | _ => true).map fun e => srcOf ps e.1
  let fz := (g.ob.filter fun e => match e.2.2 with
    | .row _ _ _ _ _ => !src.contains e.1 && (h.fr.any (fun s => match g.look s.1 with
      | some x => x.names e.1
      | none => false) || g.ob.any fun b => src.contains b.1 && b.2.2.names e.1)
    | _ => false).map fun e => Wk.frz e.1
  let rn := (h.ob.filter fun e => srcOf ps e.1 != e.1).map fun e => (srcOf ps e.1, e.1)
  let ns := h.fr.flatMap fun e => (match g.look e.1 with
    | some (.val x) => nilsL h 0 e.2.cts x.cells
    | _ => []).map fun (q : Nat × Nat × Nat × Nat × Ty) => Wk.nilS e.1 q.1 q.2.1 q.2.2.1 q.2.2.2.1 q.2.2.2.2
  let nb := h.ob.flatMap fun e => match e.2 with
    | .box cs => (match g.obj (srcOf ps e.1) with
      | some (.box xs) => nilsL h 0 cs xs
      | _ => []).map fun (q : Nat × Nat × Nat × Nat × Ty) => Wk.nilB e.1 q.1 q.2.1 q.2.2.1 q.2.2.2.1 q.2.2.2.2
    | _ => []
  (Wk.pick (h.fr.map (·.1)) (g.ob.map (·.1))) :: fz ++ [Wk.pick (h.fr.map (·.1)) src] ++ rn.map (fun p => Wk.ren p.1 (200000 + p.2)) ++ rn.map (fun p => Wk.ren (200000 + p.2) p.2) ++ ns ++ nb
/-- What varies in g, brought to the shape. -/
def F.fit (f g : F) (h : Sh) : Option (denV h.tys) :=
  match g.wks (mkWk g h) with
  | some g' => f.prj g' h
  | none => none
end Go.V
set_option linter.unusedVariables false
namespace Go.V
open Go.Ab Go.RowKit

def nodupB (l : List Nat) : Bool :=
  match l with
  | [] => true
  | x :: xs => !xs.contains x && nodupB xs
/-- Some cells in place of others. -/
def sp {α : Type} (L : List α) (off : Nat) (cs : List α) : List α := L.take off ++ cs ++ L.drop (off + cs.length)

section
variable {R : Type}

/-! ### values -/
/-- The element at an index. -/
def idx {α : Type} (l : List α) (i : Int) : Option α := cond (decide (0 ≤ i)) l[i.toNat]? none
def kOpt {α : Type} (x : Option α) (K : α → Option R) : Option R :=
  match x with
  | some a => K a
  | none => none
def bAnd (k : IntKind) (a b : Int) : Int := k.wrap ((BitVec.ofInt k.bits a &&& BitVec.ofInt k.bits b).toNat : Int)
def bOr (k : IntKind) (a b : Int) : Int := k.wrap ((BitVec.ofInt k.bits a ||| BitVec.ofInt k.bits b).toNat : Int)
def bXor (k : IntKind) (a b : Int) : Int := k.wrap ((BitVec.ofInt k.bits a ^^^ BitVec.ofInt k.bits b).toNat : Int)
def bAndNot (k : IntKind) (a b : Int) : Int := k.wrap ((BitVec.ofInt k.bits a &&& ~~~(BitVec.ofInt k.bits b)).toNat : Int)
def shl (k : IntKind) (a b : Int) : Int := k.wrap (a * 2 ^ (min b.toNat k.bits))
def shr (k : IntKind) (a b : Int) : Int := a.fdiv (2 ^ (min b.toNat k.bits))
def intBin (op : BinOp) (k : IntKind) (a b : Int) (K : C → Option R) : Option R :=
  match op with
  | .add => K (.v (.int k) (k.wrap (a + b)))
  | .sub => K (.v (.int k) (k.wrap (a - b)))
  | .mul => K (.v (.int k) (k.wrap (a * b)))
  | .quo => cond (b == 0) none (K (.v (.int k) (k.wrap (a.tdiv b))))
  | .rem => cond (b == 0) none (K (.v (.int k) (a.tmod b)))
  | .and => K (.v (.int k) (bAnd k a b))
  | .or => K (.v (.int k) (bOr k a b))
  | .xor => K (.v (.int k) (bXor k a b))
  | .andNot => K (.v (.int k) (bAndNot k a b))
  | .eql => K (.v .bool (a == b))
  | .neq => K (.v .bool (a != b))
  | .lss => K (.v .bool (decide (a < b)))
  | .leq => K (.v .bool (decide (a ≤ b)))
  | .gtr => K (.v .bool (decide (a > b)))
  | .geq => K (.v .bool (decide (a ≥ b)))
  | _ => none
def strBin (op : BinOp) (a b : ByteArray) (K : C → Option R) : Option R :=
  match op with
  | .add => cond (decide (a.size + b.size ≤ maxLen)) (K (.v .str (a ++ b))) none
  | .eql => K (.v .bool (a.toList == b.toList))
  | .neq => K (.v .bool (!(a.toList == b.toList)))
  | _ => none
def boolBin (P : Program) (op : BinOp) (t : TypeId) (a b : Bool) (K : C → Option R) : Option R :=
  match op, P.underlying t with
  | .eql, some .bool => K (.v .bool (a == b))
  | .neq, some .bool => K (.v .bool (!(a == b)))
  | _, _ => none
def cBin (P : Program) (op : BinOp) (t : TypeId) (K : C → Option R) : C → C → Option R
  | .v (.int k) a, .v (.int k') b =>
    match op with
    | .shl => cond (decide (b < 0)) none (K (.v (.int k) (shl k a b)))
    | .shr => cond (decide (b < 0)) none (K (.v (.int k) (shr k a b)))
    | _ => if k = k' then intBin op k a b K else none
  | .v .str a, .v .str b => strBin op a b K
  | .v .bool a, .v .bool b => boolBin P op t a b K
  | _, _ => none
/-- Are two cells of structs equal? -/
def eqC (P : Program) (t : TypeId) : C → C → Option Bool
  | .v (.int k) a, .v (.int k') b =>
    match P.underlying t with
    | some (.int _) => if k = k' then some (a == b) else none
    | _ => none
  | .v .bool a, .v .bool b =>
    match P.underlying t with
    | some .bool => some (a == b)
    | _ => none
  | .v .str a, .v .str b =>
    match P.underlying t with
    | some .string => some (a.toList == b.toList)
    | _ => none
  | _, _ => none
def eqFs (P : Program) (xs ys : List C) : List Field → Option Bool
  | [] => some true
  | f :: fs =>
    match xs[f.offset]?, ys[f.offset]? with
    | some x, some y =>
      match eqC P f.type x y, eqFs P xs ys fs with
      | some b, some r => if f.name = "_" then none else some (b && r)
      | _, _ => none
    | _, _ => none
def evEq (P : Program) (f : F) (op : BinOp) (t : TypeId) (x y : Operand) (K : S → Option R) : Option R :=
  match P.underlying t, f.get x, f.get y with
  | some (.struct fs), some (.val (.agg xs)), some (.val (.agg ys)) =>
    if P.stoodInHeld t = false ∧ P.eqGuardType P.depth t = false then
      match eqFs P xs ys fs.toList, op with
      | some b, .eql => K (.val (.one (.v .bool b)))
      | some b, .neq => K (.val (.one (.v .bool (!b))))
      | _, _ => none
    else none
  | _, _, _ => none
def evBin (P : Program) (f : F) (op : BinOp) (t : TypeId) (x y : Operand) (K : S → Option R) : Option R :=
  match f.getC x, f.getC y with
  | some a, some b => cBin P op t (fun c => K (.val (.one c))) a b
  | _, _ => evEq P f op t x y K

def rdC (P : Program) (t : TypeId) (off : Nat) (cs : List C) : Option A :=
  match P.info? t, P.underlying t with
  | some i, some (.struct _) => if off + i.size ≤ cs.length then some (.agg ((cs.drop off).take i.size)) else none
  | some i, some (.array _ _) => if off + i.size ≤ cs.length then some (.agg ((cs.drop off).take i.size)) else none
  | some _, some _ => cs[off]?.map .one
  | _, _ => none
/-- Slices within an element of a window. -/
def subs (r k i : Nat) : Nat → List C → List C
  | _, [] => []
  | off, .v (.sl t) x :: cs => .sub r k i off t x :: subs r k i (off + 1) cs
  | off, c :: cs => c :: subs r k i (off + 1) cs
def evLoad (P : Program) (f : F) (t : TypeId) (p : Operand) (K : S → Option R) : Option R :=
  match f.getC p with
  | some (.ptr o off) =>
    match f.obj o with
    | some (.box cs) => kOpt (rdC P t off cs) fun x => K (.val x)
    | _ => none
  | some (.ep ty x off) => kOpt (rdC P t off (split ty x)) fun x => K (.val x)
  | some (.rp r k i off) =>
    match f.obj r with
    | some (.row _ k' ty l _) => if k = k' then Option.bind l[i]? fun x => kOpt (rdC P t off (split ty x)) fun x => K (.val x) else none
    | some (.win k' ty l) => if k = k' then Option.bind l[i]? fun x => kOpt (rdC P t off (subs r k i 0 (split ty x))) fun x => K (.val x) else none
    | _ => none
  | _ => none
def evField (P : Program) (f : F) (s : TypeId) (x : Operand) (j : Nat) (K : S → Option R) : Option R :=
  match P.underlying s with
  | some (.struct fs) =>
    match fs[j]? with
    | some fd =>
      match P.info? fd.type with
      | some i =>
        if i.size = 0 then none else
        match f.getC x with
        | some (.ptr o off) => K (.val (.one (.ptr o (off + fd.offset))))
        | some (.ep t e off) => K (.val (.one (.ep t e (off + fd.offset))))
        | some (.rp r k j off) => K (.val (.one (.rp r k j (off + fd.offset))))
        | some (.ip r k i off m j q) => K (.val (.one (.ip r k i off m j (q + fd.offset))))
        | _ => none
      | none => none
    | none => none
  | _ => none
def evIndex (P : Program) (f : F) (t : TypeId) (x i : Operand) (K : S → Option R) : Option R :=
  match P.underlying t with
  | some (.slice e) =>
    match P.info? e, f.getC x, f.getC i with
    | some inf, some (.v (.sl ty) l), some (.v (.int _) n) => Option.bind (idx l n) fun x => if (split ty x).length = inf.size then K (.val (.one (.ep ty x 0))) else none
    | some inf, some (.row r), some (.v (.int _) n) =>
      match f.obj r with
      | some (.row _ k _ l _) => if k = inf.size then cond (decide (0 ≤ n)) (cond (decide (n < (l.length : Int))) (K (.val (.one (.rp r k n.toNat 0)))) none) none else none
      | some (.win k _ l) => if k = inf.size then cond (decide (0 ≤ n)) (cond (decide (n < (l.length : Int))) (K (.val (.one (.rp r k n.toNat 0)))) none) none else none
      | _ => none
    | some inf, some (.sub r k i off ty l), some (.v (.int _) n) => if tyLn ty = inf.size then cond (decide (0 ≤ n)) (cond (decide (n < (l.length : Int))) (K (.val (.one (.ip r k i off inf.size n.toNat 0)))) none) none else none
    | _, _, _ => none
  | _ => none
def evLen (P : Program) (f : F) (t : TypeId) (x : Operand) (K : S → Option R) : Option R :=
  match P.underlying t, f.getC x with
  | some (.slice _), some (.v (.sl _) l) => K (.val (.one (.v (.int .i64) (l.length : Int))))
  | some (.slice _), some .nil => K (.val (.one (.v (.int .i64) (0 : Int))))
  | some (.slice _), some (.row r) =>
    match f.obj r with
    | some (.row _ _ _ l _) => K (.val (.one (.v (.int .i64) (l.length : Int))))
    | some (.win _ _ l) => K (.val (.one (.v (.int .i64) (l.length : Int))))
    | _ => none
  | some (.slice _), some (.sub _ _ _ _ _ l) => K (.val (.one (.v (.int .i64) (l.length : Int))))
  | some .string, some (.v .str s) => K (.val (.one (.v (.int .i64) (s.size : Int))))
  | _, _ => none
def evMM (f : F) (mx : Bool) (x y : Operand) (K : S → Option R) : Option R :=
  match f.getC x, f.getC y with
  | some (.v (.int k) a), some (.v (.int k') b) => if k = k' then K (.val (.one (.v (.int k) (if mx then (if b > a then b else a) else (if b < a then b else a))))) else none
  | _, _ => none
def evFieldV (P : Program) (f : F) (t : TypeId) (x : Operand) (j : Nat) (K : S → Option R) : Option R :=
  match P.underlying t with
  | some (.struct fs) =>
    match fs[j]?, f.get x with
    | some fd, some (.val (.agg cs)) => kOpt (rdC P fd.type fd.offset cs) fun y => K (.val y)
    | _, _ => none
  | _ => none
/-- Cells written over others. -/
def fillC (f : F) (place : Nat → Option (Nat × Nat)) : List C → List (Nat × Operand) → Option (List C)
  | cs, [] => some cs
  | cs, (i, x) :: ps =>
    match place i, f.get x with
    | some (off, size), some (.val y) => if y.cells.length = size ∧ off + size ≤ cs.length ∧ y.cells.all C.solid = true then fillC f place (sp cs off y.cells) ps else none
    | _, _ => none
def placesOf (P : Program) : List Field → Option (List (Nat × Nat))
  | [] => some []
  | f :: fs =>
    match P.info? f.type, placesOf P fs with
    | some i, some ps => some ((f.offset, i.size) :: ps)
    | _, _ => none
def evBuild (P : Program) (f : F) (t : TypeId) (ps : List (Nat × Operand)) (K : S → Option R) : Option R :=
  match P.info? t, P.underlying t with
  | some i, some (.struct fs) =>
    match i.zero, placesOf P fs.toList with
    | some z, some places => if z.cells.toList.all Value.oneCell' = true then kOpt (fillC f (fun i => places[i]?) (z.cells.toList.map zC) ps) fun cs => K (.val (.agg cs)) else none
    | _, _ => none
  | some i, some (.array _ e) =>
    match i.zero, P.info? e with
    | some z, some ie => if z.cells.toList.all Value.oneCell' = true then kOpt (fillC f (fun j => some (j * ie.size, ie.size)) (z.cells.toList.map zC) ps) fun cs => K (.val (.agg cs)) else none
    | _, _ => none
  | _, _ => none
def bndC (f : F) (dflt : Int) : Option Operand → Option Int
  | none => some dflt
  | some x =>
    match f.getC x with
    | some (.v (.int _) n) => some n
    | _ => none
def slOk (l h n : Int) : Bool := decide (0 ≤ l) && (decide (l ≤ h) && decide (h ≤ n))
def cut {α : Type} (l : List α) (lo hi : Int) : List α := (l.drop lo.toNat).take (hi - lo).toNat
def evSlice (P : Program) (f : F) (t : TypeId) (x : Operand) (lo hi : Option Operand) (K : S → Option R) : Option R :=
  match P.underlying t, f.getC x with
  | some (.slice e), some (.v (.sl ty) l) =>
    match P.info? e, bndC f 0 lo, bndC f (l.length : Int) hi with
    | some i, some a, some b => if i.size = (tyLen ty) then cond (slOk a b (l.length : Int)) (K (.val (.one (.v (.sl ty) (cut l a b))))) none else none
    | _, _, _ => none
  | some (.slice e), some (.sub r k i off ty l) =>
    match P.info? e, lo, bndC f (l.length : Int) hi with
    | some inf, none, some b => if inf.size = tyLen ty then cond (slOk 0 b (l.length : Int)) (K (.val (.one (.sub r 0 i (i * k + off) ty (l.take b.toNat))))) none else none
    | _, _, _ => none
  | some .string, some (.v .str s) =>
    match bndC f 0 lo, bndC f (s.size : Int) hi with
    | some a, some b => cond (slOk a b (s.size : Int)) (K (.val (.one (.v .str (s.extract a.toNat b.toNat))))) none
    | _, _ => none
  | _, _ => none
where
  tyLen : Ty → Nat
    | .pair a b => tyLen a + tyLen b
    | _ => 1
/-- The element at an index of cells of one simple type. -/
def litOf (t : Ty) (d : den t) : List C → Option (List (den t))
  | [] => some []
  | .v t' x :: cs => match castTy t' t x, litOf t d cs with
    | some y, some ys => some (y :: ys)
    | _, _ => none
  | _ => none
def evIdxV (P : Program) (f : F) (t : TypeId) (x i : Operand) (K : S → Option R) : Option R :=
  match P.underlying t, f.get x, f.getC i with
  | some .string, some (.val (.one (.v .str s))), some (.v (.int _) n) => Option.bind (idx s.data.toList n) fun b => K (.val (.one (.v (.int .u8) (b.toNat : Int))))
  | some (.array len e), some (.val (.agg cs)), some (.v (.int _) n) =>
    match P.info? e, P.underlying e with
    | some inf, some .string => if inf.size = 1 ∧ cs.length = len then kOpt (litOf .str ⟨#[]⟩ cs) fun l => Option.bind (idx l n) fun y => K (.val (.one (.v .str y))) else none
    | some inf, some (.int k) => if inf.size = 1 ∧ cs.length = len then kOpt (litOf (.int k) (0 : Int) cs) fun l => Option.bind (idx l n) fun y => K (.val (.one (.v (.int k) y))) else none
    | _, _ => none
  | _, _, _ => none
def toU8 (l : List Int) : List UInt8 := l.map fun n => UInt8.ofNat n.toNat
def strOf (l : List Int) : ByteArray := ⟨(toU8 l).toArray⟩
def evConv (P : Program) (f : F) (s d : TypeId) (x : Operand) (K : S → Option R) : Option R :=
  match f.getC x, P.underlying s, P.underlying d with
  | some (.v (.int _) n), some _, some (.int k) => K (.val (.one (.v (.int k) (k.wrap n))))
  | some c, some (.slice e), some .string =>
    match P.underlying e, f.data (.sl (.int .u8)) c with
    | some (.int .u8), some l => K (.val (.one (.v .str (strOf l))))
    | _, _ => none
  | _, _, _ => none
def evVal (P : Program) (f : F) (K : S → Option R) : Op → Option R
  | .move x => kOpt (f.get x) K
  | .assign x => kOpt (f.get x) K
  | .pick c x y =>
    match f.getC c with
    | some (.v .bool b) => cond b (kOpt (f.get x) K) (kOpt (f.get y) K)
    | _ => none
  | .load t p => evLoad P f t p K
  | .nilCheck x =>
    match f.getC x with
    | some (.ptr o off) => K (.val (.one (.ptr o off)))
    | some (.ep t e off) => K (.val (.one (.ep t e off)))
    | some (.rp r k i off) => K (.val (.one (.rp r k i off)))
    | some (.ip r k i off m j q) => K (.val (.one (.ip r k i off m j q)))
    | _ => none
  | .binOp op t x y _ => evBin P f op t x y K
  | .unOp .not _ x =>
    match f.getC x with
    | some (.v .bool b) => K (.val (.one (.v .bool (!b))))
    | _ => none
  | .unOp .neg _ x =>
    match f.getC x with
    | some (.v (.int k) n) => K (.val (.one (.v (.int k) (k.wrap (0 - n)))))
    | _ => none
  | .convert s d x => evConv P f s d x K
  | .fieldAddr s x j => evField P f s x j K
  | .field t x j => evFieldV P f t x j K
  | .build t ps => evBuild P f t ps.toList K
  | .slice t x lo hi none => evSlice P f t x lo hi K
  | .index t x i => evIdxV P f t x i K
  | .indexAddr t x i => evIndex P f t x i K
  | .extract x i =>
    match f.get x with
    | some (.tup xs) => kOpt xs[i]? fun y => K (.val y)
    | _ => none
  | .makeFunc (.func g) first cap =>
    match first.toList, cap.toList with
    | [], [x] =>
      match f.getC x with
      | some (.ptr o off) => if off = 0 then K (.val (.one (.clo g o))) else none
      | _ => none
    | _, _ => none
  | .call cl =>
    match cl.callee, cl.args.toList, cl.argTypes.toList with
    | .builtin .len, [x], [t] => evLen P f t x K
    | .builtin .max, [x, y], _ => evMM f true x y K
    | .builtin .min, [x, y], _ => evMM f false x y K
    | _, _, _ => none
  | _ => none

/-! ### memory -/
def mkOk (bytes : Nat) (n m : Int) : Bool := decide (m = n) && (decide (0 ≤ n) && (decide ((bytes : Int) * n ≤ 281474976710656) && decide (n ≤ 4611686018427387904)))
def apOk (bytes n m : Nat) : Bool := decide ((n + m) * (bytes + 1) ≤ 140737488355328)
def litEls (f : F) (k : Nat) (t : Ty) : List (Nat × Operand) → Option (List (den t) × List Nat × Bool)
  | [] => some ([], [], true)
  | (_, x) :: ps =>
    match f.get x, litEls f k t ps with
    | some (.val y), some (es, i2, d2) =>
      if y.cells.length = k then
        match f.dataL t y.cells, mvCs f y.cells with
        | some (e, []), some (i1, d1) => some (e :: es, i1 ++ i2, d1 && d2)
        | _, _ => none
      else none
    | _, _ => none
/-- What is appended: the elements; the rows that go with them; is it the row's own? -/
def apSrc (f : F) (k : Nat) (t : Ty) : C → Option (List (den t) × List Nat × Bool)
  | .nil => some ([], [], true)
  | .v t' x => (castTy t' (.sl t) x).map fun l => (l, [], flat t)
  | .row r => match f.obj r with
    | some (.row _ k' t' l deep) => if k' = k then (castTy (.sl t') (.sl t) l).map fun l => (l, [r], deep) else none
    | _ => none
  | _ => none
def evApp (P : Program) (f : F) (d : Nat) (t : TypeId) (s x : Operand) (K : F → Option R) : Option R :=
  match P.underlying t with
  | some (.slice e) =>
    match P.info? e, tyOf P 12 e with
    | some i, some ty =>
      match i.zero with
      | some z =>
        if z.cells.size = i.size ∧ 0 < i.size ∧ evSlice.tyLen ty = i.size ∧ pinned d = false then
          match f.getC s, f.getC x with
          | some cs, some cx =>
            match apSrc f i.size ty cx with
            | some (es2, ids, dp) =>
              match cs with
              | .nil => cond (apOk i.bytes 0 es2.length) (K ((f.frzAll ids).newOb d (.row e i.size ty es2 dp) (.row d))) none
              | .row r =>
                match f.obj r with
                | some (.row e1 k1 t1 l1 deep1) =>
                  match castTy (.sl t1) (.sl ty) l1 with
                  | some es1 =>
                    if e1 = e ∧ k1 = i.size ∧ r ≠ d ∧ ids.contains r = false ∧ pinned r = false then
                      cond (apOk i.bytes es1.length es2.length) (K (((f.frzAll ids).add r (.row e i.size ty (es1 ++ es2) (deep1 && dp))).put (some d) (.val (.one (.row r))))) none
                    else none
                  | none => none
                | _ => none
              | _ => none
            | none => none
          | _, _ => none
        else none
      | none => none
    | _, _ => none
  | _ => none
def evStore (P : Program) (f : F) (t : TypeId) (p x : Operand) (K : F → Option R) : Option R :=
  match f.getC p, f.get x, P.info? t with
  | some (.ptr o off), some (.val y), some inf =>
    match f.obj o with
    | some (.box cs) => if y.cells.length = inf.size ∧ off + y.cells.length ≤ cs.length ∧ y.cells.all C.solid = true then K (f.setOb o (.box (sp cs off y.cells))) else none
    | _ => none
  | some (.rp r k i off), some (.val y), some inf =>
    match f.obj r with
    | some (.row e k' ty l deep) =>
      match mvCs f y.cells with
      | some (ids, dp) =>
        if k = k' ∧ y.cells.length = inf.size ∧ off + y.cells.length ≤ k ∧ nodupB ids = true ∧ ids.contains r = false then
          if off = 0 ∧ y.cells.length = k then
            match f.dataL ty y.cells with
            | some (z, []) => cond (decide (i < l.length)) (K ((f.frzAll ids).setOb r (.row e k ty (l.set i z) (deep && dp)))) none
            | _ => none
          else Option.bind l[i]? fun el =>
            match f.dataL ty (sp (split ty el) off y.cells) with
            | some (z, []) => K ((f.frzAll ids).setOb r (.row e k ty (l.set i z) (deep && dp)))
            | _ => none
        else none
      | none => none
    | some (.win k' ty l) =>
      if k = k' ∧ y.cells.length = inf.size ∧ inf.size = 1 ∧ off < k then
        Option.bind l[i]? fun el =>
          match y.cells, (split ty el)[off]? with
          | [.v tz z], some (.v ty' _) =>
            if flat tz = true ∧ flat ty' = true then
              match f.dataL ty (sp (split ty el) off [.v tz z]) with
              | some (el', []) => K (f.setOb r (.win k ty (l.set i el')))
              | _ => none
            else none
          | _, _ => none
      else none
    | _ => none
  | _, _, _ => none
end
end Go.V
set_option linter.unusedVariables false
namespace Go.V
open Go.Ab Go.RowKit

section
variable {R : Type}

def evMem (P : Program) (f : F) (d : Option Nat) (K : F → Option R) : Op → Option R
  | .alloc t =>
    match d, P.info? t with
    | some d, some i =>
      match i.zero with
      | some z => if z.cells.toList.all Value.oneCell' = true ∧ pinned d = false then K (f.newOb d (.box ((z.cells.toList.map zC).map (scrubC d))) (.ptr d 0)) else none
      | none => none
    | _, _ => none
  | .box _ x =>
    match d, f.get x with
    | some d, some (.val y) => if y.cells.all C.solid = true ∧ pinned d = false then K (f.newOb d (.box (y.cells.map (scrubC d))) (.ptr d 0)) else none
    | _, _ => none
  | .store t p x =>
    match d with
    | none => evStore P f t p x K
    | some _ => none
  | .makeSlice t x y =>
    match d, P.underlying t, f.getC x, f.getC y with
    | some d, some (.slice e), some (.v (.int _) n), some (.v (.int _) m) =>
      match P.info? e, tyOf P 12 e with
      | some i, some ty =>
        match i.zero with
        | some z =>
          match f.dataL ty (z.cells.toList.map zC) with
          | some (z0, []) => if i.size = z.cells.size ∧ 0 < i.size ∧ pinned d = false then cond (mkOk i.bytes n m) (K (f.newOb d (.row e i.size ty (List.replicate n.toNat z0) true) (.row d))) none else none
          | _ => none
        | none => none
      | _, _ => none
    | _, _, _, _ => none
  | .buildSlice t len ps =>
    match d, P.underlying t with
    | some d, some (.slice e) =>
      match P.info? e, tyOf P 12 e with
      | some i, some ty =>
        match litEls f i.size ty ps.toList with
        | some (es, ids, dp) => if 0 < i.size ∧ evSlice.tyLen ty = i.size ∧ ps.toList.map (·.1) = List.range len ∧ len * i.size ≤ 1000 ∧ i.zero.isSome = true ∧ nodupB ids = true ∧ pinned d = false then K ((f.frzAll ids).newOb d (.row e i.size ty es dp) (.row d)) else none
        | none => none
      | _, _ => none
    | _, _ => none
  | .call cl =>
    match d, cl.callee, cl.args.toList, cl.argTypes.toList with
    | some d, .builtin .append, [s, x], [t, t'] => if t = t' then evApp P f d t s x K else none
    | _, _, _, _ => none
  | _ => none

/-! ### stores into slices within a row's elements -/
/-- Data without an integer of this kind. -/
def noK (kd : IntKind) : Ty → Bool
  | .int k => !decide (k = kd)
  | .bool => true
  | .str => true
  | .sl t => noK kd t
  | .pair a b => noK kd a && noK kd b
/-- Does a cell stay as it is when an integer of this kind turns in memory that data may lie in? -/
def C.safe (kd : IntKind) : C → Bool
  | .v t _ => flat t || noK kd t
  | .ep _ _ _ => false
  | .sub _ _ _ _ _ _ => false
  | .ip _ _ _ _ _ _ _ => false
  | _ => true
def A.safe (kd : IntKind) : A → Bool
  | .one c => c.safe kd
  | .agg cs => cs.all (C.safe kd)
def S.safe (kd : IntKind) : S → Bool
  | .val x => x.safe kd
  | .tup xs => xs.all (A.safe kd)
  | .un => true
def O.safe (kd : IntKind) : O → Bool
  | .box cs => cs.all (C.safe kd)
  | _ => true
def O.kept (kd : IntKind) : O → Bool
  | .row _ _ t _ deep => deep || (flat t || noK kd t)
  | _ => true
def safeC (kd : IntKind) (c : C) : C := if c.safe kd then c else .any
def O.toSafe (kd : IntKind) : O → O
  | .box cs => .box (cs.map (safeC kd))
  | x => x
/-- Forget all that may turn when an integer of this kind turns in a row's slice. -/
def F.toSafe (f : F) (kd : IntKind) : F :=
  ⟨f.ctr + 1, f.fr.filter (fun e => e.2.2.safe kd), (f.ob.filter fun e => e.2.2.kept kd).map fun e => if e.2.2.safe kd then e else (e.1, f.ctr, e.2.2.toSafe kd)⟩
def isIp (f : F) (p x : Operand) : Bool :=
  match f.getC p, f.getC x with
  | some (.ip _ _ _ _ _ _ _), _ => true
  | some (.rp _ _ _ _), some (.sub _ 0 _ _ _ _) => true
  | _, _ => false
def F00 : F := ⟨0, [], []⟩
/-- An integer is stored into a slice within an element of a deep row. -/
def evStoreN (P : Program) (f : F) (t : TypeId) (p x : Operand) (K : F → Option R) : Option R :=
  match f.getC p, f.get x, P.info? t with
  | some (.ip r k i off m j q), some (.val (.one (.v (.int kd) z))), some inf =>
    match f.obj r with
    | some (.row e k' T l true) =>
      if k = k' ∧ inf.size = 1 ∧ off < k ∧ q < m then
        Option.bind l[i]? fun el =>
          match (split T el)[off]? with
          | some (.v (.sl t2) x2) =>
            if tyLn t2 = m then
              Option.bind x2[j]? fun el2 =>
                match (split t2 el2)[q]? with
                | some (.v (.int kd') _) =>
                  if kd' = kd then
                    match F00.dataL t2 (sp (split t2 el2) q [.v (.int kd) z]) with
                    | some (el2', []) =>
                      match F00.dataL T (sp (split T el) off [.v (.sl t2) (x2.set j el2')]) with
                      | some (el', []) => K ((f.toSafe kd).setOb r (.row e k T (l.set i el') true))
                      | _ => none
                    | _ => none
                  else none
                | _ => none
            else none
          | _ => none
      else none
    | _ => none
  | some (.rp r k i off), some (.val (.one (.sub r' k1 _ off' t2 x2))), some inf =>
    match f.obj r with
    | some (.row e k' T l true) =>
      if k = k' ∧ r' = r ∧ k1 = 0 ∧ inf.size = 1 ∧ off < k ∧ flat t2 = true then
        cond (decide (off' = i * k + off)) (Option.bind l[i]? fun el =>
          match (split T el)[off]? with
          | some (.v (.sl t3) _) =>
            if t3 = t2 then
              match F00.dataL T (sp (split T el) off [.v (.sl t2) x2]) with
              | some (el', []) => K (f.noSubs.setOb r (.row e k T (l.set i el') true))
              | _ => none
            else none
          | _ => none) none
      else none
    | _ => none
  | _, _, _ => none

/-! ### callees -/
/-- A callee: its number, the shapes of what it takes and of what it hands back, whether the rows that it hands back are taken as windows, what it computes. -/
structure Con where
  f : FuncId
  pre : Sh
  post : Sh
  win : Bool
  sem : denV pre.tys → Option (denV post.tys)
/-- The same callee, its rows taken as windows. -/
def Con.w (c : Con) : Con := { c with win := true }
def conOf (E : List Con) (f : FuncId) : Option Con := E.find? fun c => c.f == f
def argC (f : F) : CT → C → Option (List TV)
  | .var t, c => (f.data t c).map fun x => [⟨t, x⟩]
  | _, _ => none
def argL (f : F) : List CT → List C → Option (List TV)
  | [], [] => some []
  | t :: ts, c :: cs => match argC f t c, argL f ts cs with
    | some a, some b => some (a ++ b)
    | _, _ => none
  | _, _ => none
def argS (f : F) (h : ST) (x : Operand) : Option (List TV) :=
  match h, f.get x with
  | .one t, some (.val (.one c)) => argC f t c
  | .agg ts, some (.val (.agg cs)) => argL f ts cs
  | _, _ => none
def argsOf (f : F) : Nat → List (Nat × ST) → List Operand → Option (List TV)
  | _, [], [] => some []
  | i, (j, h) :: hs, x :: xs => if i = j then match argS f h x, argsOf f (i + 1) hs xs with
      | some a, some b => some (a ++ b)
      | _, _ => none
    else none
  | _, _, _ => none
def callId (d : Nat) : Nat := 1000 + 16 * d
def F0 : F := ⟨0, [], []⟩
def CT.isSl : CT → Bool
  | .var t => !flat t
  | _ => false
def ST.isSl : ST → Bool
  | .one c => c.isSl
  | .agg cs => cs.any CT.isSl
  | .keep => false
def rowsIn : S → List Nat
  | .val x => x.cells.flatMap fun c => match c with
    | .row r => [r]
    | _ => []
  | _ => []
def rowsOf (f : F) (xs : List Operand) : List Nat := xs.flatMap fun x => match f.get x with
  | some s => rowsIn s
  | none => []
/-- A result's cell, its rows renumbered. -/
def shC (base : Nat) : C → C
  | .row r => .row (base + r)
  | c => c
def shA (base : Nat) : A → A
  | .one c => .one (shC base c)
  | .agg cs => .agg (cs.map (shC base))
def resAs : List (Nat × Nat × S) → List A
  | (_, _, .val x) :: es => x :: resAs es
  | _ => []
def resS : List A → S
  | [x] => .val x
  | xs => .tup xs
def okC (sl : Bool) (ids : List Nat) : C → Bool
  | .v t _ => sl || flat t
  | .row r => ids.contains r
  | _ => false
def okA (sl : Bool) (ids : List Nat) : A → Bool
  | .one c => okC sl ids c
  | .agg cs => cs.all (okC sl ids)
def okS (sl : Bool) (ids : List Nat) : S → Bool
  | .val x => okA sl ids x
  | _ => false
def okO (d : Nat) (e : Nat × Nat × O) : Bool :=
  match e.2.2 with
  | .row _ _ _ _ true => !pinned (callId d + e.1)
  | _ => false
/-- May what a callee hands back be taken over? -/
def okPost (sl win : Bool) (d : Nat) (p : F) : Bool :=
  (p.fr.map (·.1) == List.range p.fr.length) && (nodupB (p.ob.map (·.1)) && (p.ob.all (okO d) && (p.fr.all (fun e => okS sl (p.ob.map (·.1)) e.2.2) && !(sl && win))))
def takeO (win : Bool) : O → O
  | .row e k t l deep => cond win (.win k t l) (.row e k t l deep)
  | x => x
/-- The rows that a callee has made are the frame's. -/
def adopt (d : Nat) (win : Bool) (f : F) : List (Nat × Nat × O) → F
  | [] => f
  | e :: es => adopt d win (f.add (callId d + e.1) (takeO win e.2.2)) es
/-- A callee that takes data. -/
def evCall1 (c : Con) (f : F) (d : Option Nat) (xs : List Operand) (K : F → Option R) : Option R :=
  match d with
  | some d =>
    if c.post.fr.any (·.2.isSl) = true ∧ (rowsOf f xs).isEmpty = false then none else
    match argsOf f 0 c.pre.fr xs with
    | some tvs => kOpt (ofTVs c.pre.tys tvs) fun a => kOpt (F0.inj c.pre a) fun _ => Option.bind (c.sem a) fun y => kOpt (F0.inj c.post y) fun p =>
      cond (okPost (c.post.fr.any (·.2.isSl)) c.win d p) (K ((adopt d c.win f p.ob).put (some d) (resS ((resAs p.fr).map (shA (callId d)))))) none
    | none => none
  | none => none
/-- A window that a callee may write: a whole one, or a slice within an element of one. -/
inductive Tgt where
  | whole (r k : Nat) (t : Ty) (l : List (den t))
  | part (r k i off : Nat) (T : Ty) (L : List (den T)) (el : den T) (t : Ty) (l : List (den t))
def Tgt.root : Tgt → Nat
  | .whole r _ _ _ => r
  | .part r _ _ _ _ _ _ _ _ => r
def Tgt.tv : Tgt → TV
  | .whole _ _ t l => ⟨.sl t, l⟩
  | .part _ _ _ _ _ _ _ t l => ⟨.sl t, l⟩
def evTgt (f : F) (k : Nat) (t : Ty) (K : Tgt → Option R) : C → Option R
  | .row r => match f.obj r with
    | some (.win k' t' l) => if k' = k ∧ t' = t then K (.whole r k' t' l) else none
    | _ => none
  | .sub r k1 i off _ _ => match f.obj r with
    | some (.win k' T L) => if k1 = k' ∧ 0 < k1 then Option.bind L[i]? fun el => match (split T el)[off]? with
        | some (.v (.sl t') l) => if t' = t ∧ tyLn t = k then K (.part r k' i off T L el t' l) else none
        | _ => none
      else none
    | _ => none
  | _ => none
def evTgts (f : F) : List (Nat × OT) → List (Nat × C) → (List Tgt → Option R) → Option R
  | [], [], K => K []
  | (p, .win k t) :: hs, (q, c) :: cs, K => if p = q then evTgt f k t (fun x => evTgts f hs cs fun xs => K (x :: xs)) c else none
  | _, _, _ => none
def Tgt.upd (f : F) : Tgt → O → Option F
  | .whole r k t _, .win k' t' l' => if k = k' then (castTy (.sl t') (.sl t) l').map fun y => f.setOb r (.win k t y) else none
  | .part r k i off T L el _ _, .win _ t' l' => match F0.dataL T (sp (split T el) off [.v (.sl t') l']) with
    | some (el', []) => some (f.setOb r (.win k T (L.set i el')))
    | _ => none
  | _, _ => none
def updAll (f : F) : List Tgt → List (Nat × Nat × O) → Option F
  | [], [] => some f
  | x :: xs, e :: es => match x.upd f e.2.2 with
    | some g => updAll g xs es
    | none => none
  | _, _ => none
def argWC (f : F) : CT → C → Option (List TV × List (Nat × C))
  | .var t, c => if flat t = true then (f.data t c).map fun x => ([⟨t, x⟩], []) else none
  | .row p, c => some ([], [(p, c)])
  | _, _ => none
def argWL (f : F) : List CT → List C → Option (List TV × List (Nat × C))
  | [], [] => some ([], [])
  | t :: ts, c :: cs => match argWC f t c, argWL f ts cs with
    | some (a, p), some (b, q) => some (a ++ b, p ++ q)
    | _, _ => none
  | _, _ => none
def argWS (f : F) (h : ST) (x : Operand) : Option (List TV × List (Nat × C)) :=
  match h, f.get x with
  | .one t, some (.val (.one c)) => argWC f t c
  | .agg ts, some (.val (.agg cs)) => argWL f ts cs
  | _, _ => none
def argsW (f : F) : Nat → List (Nat × ST) → List Operand → Option (List TV × List (Nat × C))
  | _, [], [] => some ([], [])
  | i, (j, h) :: hs, x :: xs => if i = j then match argWS f h x, argsW f (i + 1) hs xs with
      | some (a, p), some (b, q) => some (a ++ b, p ++ q)
      | _, _ => none
    else none
  | _, _, _ => none
def okPostW (p : F) : Bool := (p.fr.map (·.1) == List.range p.fr.length) && p.fr.all fun e => okS false [] e.2.2
/-- A callee that writes into windows. -/
def evCallW (c : Con) (f : F) (d : Option Nat) (xs : List Operand) (K : F → Option R) : Option R :=
  match d with
  | some d =>
    match argsW f 0 c.pre.fr xs with
    | some (tvs, ps) =>
      if nodupB (ps.map (·.1)) = true ∧ (ps.all fun e => pinned e.1) = true then
        evTgts f c.pre.ob ps fun ts =>
          if nodupB (ts.map Tgt.root) = true then
            kOpt (ofTVs c.pre.tys (tvs ++ ts.map Tgt.tv)) fun a => kOpt (F0.inj c.pre a) fun _ => Option.bind (c.sem a) fun y => kOpt (F0.inj c.post y) fun p =>
              if p.ob.map (·.1) = ps.map (·.1) ∧ okPostW p = true then kOpt (updAll f.noSubs ts p.ob) fun g => K (g.put (some d) (resS (resAs p.fr))) else none
          else none
      else none
    | none => none
  | none => none
/-! ### callees that take pointers, or hand back pointers or rows that are not all their own -/
def Con.ptrs (c : Con) : Bool := c.pre.ob.any (fun e => match e.2 with
  | .box _ => true
  | .row _ _ _ _ => true
  | _ => false) || c.post.ob.any (fun e => match e.2 with
  | .box _ => true
  | .row _ _ _ deep => !deep
  | _ => false)
/-- A cell that is handed over: data; or an object, with the number that the callee gives it. -/
def handC : CT → C → Option (List TV × List (Nat × Nat))
  | .var t, .v t' x => (castTy t' t x).map fun y => ([⟨t, y⟩], [])
  | .var (.sl t), .nil => some ([⟨.sl t, []⟩], [])
  | .row q, .row r => some ([], [(q, r)])
  | .ptr p off, .ptr o off' => if off = off' then some ([], [(p, o)]) else none
  | _, _ => none
def handL : List CT → List C → Option (List TV × List (Nat × Nat))
  | [], [] => some ([], [])
  | t :: ts, c :: cs => match handC t c, handL ts cs with
    | some (a, p), some (b, q) => some (a ++ b, p ++ q)
    | _, _ => none
  | _, _ => none
def handS (f : F) (h : ST) (x : Operand) : Option (List TV × List (Nat × Nat)) :=
  match h, f.get x with
  | .one t, some (.val (.one c)) => handC t c
  | .agg ts, some (.val (.agg cs)) => handL ts cs
  | _, _ => none
def handArgs (f : F) : Nat → List (Nat × ST) → List Operand → Option (List TV × List (Nat × Nat))
  | _, [], [] => some ([], [])
  | i, (j, h) :: hs, x :: xs => if i = j then match handS f h x, handArgs f (i + 1) hs xs with
      | some (a, p), some (b, q) => some (a ++ b, p ++ q)
      | _, _ => none
    else none
  | _, _, _ => none
/-- The objects that are handed over. -/
def handObs (f : F) : List (Nat × OT) → List (Nat × Nat) → Option (List TV × List (Nat × Nat))
  | [], ps => some ([], ps)
  | (p, .box cts) :: hs, ps =>
    match ps.find? fun e => e.1 == p with
    | some e =>
      match f.obj e.2 with
      | some (.box cs) =>
        match handL cts cs with
        | some (a, qs) =>
          match handObs f hs (ps ++ qs) with
          | some (b, r) => some (a ++ b, r)
          | none => none
        | none => none
      | _ => none
    | none => none
  | (p, .row e k t deep) :: hs, ps =>
    match ps.find? fun e => e.1 == p with
    | some z =>
      match f.obj z.2 with
      | some (.row e' k' t' l _) =>
        if e = e' ∧ k = k' ∧ t = t' ∧ deep = false then
          match handObs f hs ps with
          | some (b, r) => some (⟨.sl t', l⟩ :: b, r)
          | none => none
        else none
      | _ => none
    | none => none
  | _ :: _, _ => none
/-- The caller's number of an object that comes back. -/
def rho (H : List (Nat × Nat)) (d q : Nat) : Nat :=
  match H.find? fun e => pinned e.1 && e.1 == q with
  | some e => e.2
  | none => callId d + q
def shCP (H : List (Nat × Nat)) (d : Nat) : C → C
  | .row r => .row (rho H d r)
  | .ptr o off => .ptr (rho H d o) off
  | c => c
def shAP (H : List (Nat × Nat)) (d : Nat) : A → A
  | .one c => .one (shCP H d c)
  | .agg cs => .agg (cs.map (shCP H d))
def shOP (H : List (Nat × Nat)) (d : Nat) : O → O
  | .box cs => .box (cs.map (shCP H d))
  | x => x
def okCP (ids : List Nat) : C → Bool
  | .v _ _ => true
  | .nil => true
  | .row r => ids.contains r
  | .ptr o _ => ids.contains o
  | .any => true
  | _ => false
def okAP (ids : List Nat) : A → Bool
  | .one c => okCP ids c
  | .agg cs => cs.all (okCP ids)
def okSP (ids : List Nat) : S → Bool
  | .val x => okAP ids x
  | _ => false
/-- May an object of the callee come back? One that was handed over keeps its number; a new one has a number that nothing handed over has. -/
def okIP (H : List (Nat × Nat)) (d q : Nat) : Bool :=
  cond (pinned q) ((H.map (·.1)).contains q) (!pinned (callId d + q) && !(H.any fun e => pinned e.1 && e.2 == callId d + q))
def okOP (H : List (Nat × Nat)) (d : Nat) (ids : List Nat) (e : Nat × Nat × O) : Bool :=
  okIP H d e.1 && match e.2.2 with
  | .box cs => cs.all (okCP ids)
  | .row _ _ _ _ _ => true
  | .win _ _ _ => false
def okPostP (H : List (Nat × Nat)) (d : Nat) (p : F) : Bool :=
  (p.fr.map (·.1) == List.range p.fr.length) && (nodupB (p.ob.map (·.1)) && (p.ob.all (okOP H d (p.ob.map (·.1))) && p.fr.all fun e => okSP (p.ob.map (·.1)) e.2.2))
/-- The frame less what was handed over. -/
def killIds (H : List (Nat × Nat)) (d : Nat) (p : F) : List Nat := ((H.filter fun e => !pinned e.1).map (·.2)) ++ ((p.ob.filter fun e => !pinned e.1).map fun e => callId d + e.1)
def F.scrubs (f : F) (ids : List Nat) : F := ids.foldl F.scrub f
def F.less (f : F) (H : List (Nat × Nat)) : F := ⟨f.ctr, f.fr, f.ob.filter fun e => !(H.any fun q => pinned q.1 && q.2 == e.1)⟩
/-- What comes back. -/
def F.give (f : F) (H : List (Nat × Nat)) (d : Nat) (es : List (Nat × Nat × O)) : F :=
  ⟨f.ctr + 1, f.fr, es.map (fun e => (rho H d e.1, f.ctr, shOP H d e.2.2)) ++ f.ob⟩
def F.isRow (f : F) (r : Nat) : Bool :=
  match f.obj r with
  | some (.row _ _ _ _ _) => true
  | _ => false
/-- A slice within an element of a row that is not handed over. -/
def C.subOk (f : F) (H : List (Nat × Nat)) : C → Bool
  | .sub r _ _ _ _ _ => f.isRow r && !(H.map (·.2)).contains r
  | .ip r _ _ _ _ _ _ => f.isRow r && !(H.map (·.2)).contains r
  | _ => true
def A.subOk (f : F) (H : List (Nat × Nat)) : A → Bool
  | .one c => c.subOk f H
  | .agg cs => cs.all (C.subOk f H)
def S.subOk (f : F) (H : List (Nat × Nat)) : S → Bool
  | .val x => x.subOk f H
  | .tup xs => xs.all (A.subOk f H)
  | .un => true
def F.subOk (f : F) (H : List (Nat × Nat)) : Bool := f.fr.all (fun e => e.2.2.subOk f H) && f.ob.all fun e => !e.2.2.isSub
/-- May what is handed over name row r? -/
def touch (f : F) (xs : List Operand) (r : Nat) : Bool := xs.any fun x => match f.get x with
  | some (.val y) => y.cells.any fun c => c.names r || (match c with
    | .ptr o _ => match f.obj o with
      | some z => z.names r
      | none => false
    | _ => false)
  | _ => false
def C.lives (f : F) (xs : List Operand) : C → Bool
  | .sub r _ _ _ _ _ => f.isRow r && !touch f xs r
  | .ip r _ _ _ _ _ _ => f.isRow r && !touch f xs r
  | _ => true
def S.lives (f : F) (xs : List Operand) : S → Bool
  | .val x => x.cells.all (C.lives f xs)
  | x => !x.isSub
/-- Only slices within elements of rows that are not handed over are spoken of. -/
def F.subsFor (f : F) (xs : List Operand) : F := ⟨f.ctr + 1, f.fr.filter (fun e => e.2.2.lives f xs), f.ob.map fun e => if e.2.2.isSub then (e.1, f.ctr, e.2.2.noSub) else e⟩
def evCallP0 (c : Con) (f : F) (d : Option Nat) (xs : List Operand) (K : F → Option R) : Option R :=
  match handArgs f 0 c.pre.fr xs with
  | some (tvs, ps) =>
    match handObs f c.pre.ob ps with
    | some (tws, H) =>
      if nodupB (H.map (·.1)) = true ∧ nodupB (H.map (·.2)) = true ∧ nodupB (c.pre.ob.map (·.1)) = true ∧ (c.pre.ob.isEmpty = true → H.isEmpty = true) ∧ f.subOk H = true then
        kOpt (ofTVs c.pre.tys (tvs ++ tws)) fun a => kOpt (F0.inj c.pre a) fun _ => Option.bind (c.sem a) fun y => kOpt (F0.inj c.post y) fun p =>
          cond (okPostP H (d.getD 9000) p) (K ((((f.scrubs (killIds H (d.getD 9000) p)).less H).give H (d.getD 9000) p.ob).put d (resS ((resAs p.fr).map (shAP H (d.getD 9000)))))) none
      else none
    | none => none
  | none => none
/-- Rows that are handed over as data. -/
def frzC1 : CT → C → List Nat
  | .var _, .row r => [r]
  | _, _ => []
def frzCL : List CT → List C → List Nat
  | t :: ts, c :: cs => frzC1 t c ++ frzCL ts cs
  | _, _ => []
def frzO (f : F) (obs : List (Nat × OT)) : CT → C → List Nat
  | .ptr p _, .ptr o _ => match obs.find? (fun e => e.1 == p), f.obj o with
    | some (_, .box cts), some (.box cs) => frzCL cts cs
    | _, _ => []
  | _, _ => []
def frzP (f : F) (obs : List (Nat × OT)) : List (Nat × ST) → List Operand → List Nat
  | (_, h) :: hs, x :: xs => (match h, f.get x with
    | .one t, some (.val (.one c)) => frzC1 t c ++ frzO f obs t c
    | .agg ts, some (.val (.agg cs)) => frzCL ts cs
    | _, _ => []) ++ frzP f obs hs xs
  | _, _ => []
/-- Nil that is handed over as an empty row. -/
def nilCL (o : Nat) (obs : List (Nat × OT)) : Nat → List CT → List C → List Wk
  | j, .row q :: ts, .nil :: cs => (match obs.find? fun e => e.1 == q with
    | some (_, .row e k t _) => [Wk.nilB o j (180000 + j) e k t]
    | _ => []) ++ nilCL o obs (j + 1) ts cs
  | j, _ :: ts, _ :: cs => nilCL o obs (j + 1) ts cs
  | _, _, _ => []
def nilP (f : F) (obs : List (Nat × OT)) : List (Nat × ST) → List Operand → List Wk
  | (_, h) :: hs, x :: xs => (match h, f.get x with
    | .one (.ptr p _), some (.val (.one (.ptr o _))) => match obs.find? (fun e => e.1 == p), f.obj o with
      | some (_, .box cts), some (.box cs) => nilCL o obs 0 cts cs
      | _, _ => []
    | _, _ => []) ++ nilP f obs hs xs
  | _, _ => []
def evCallP (c : Con) (f : F) (d : Option Nat) (xs : List Operand) (K : F → Option R) : Option R :=
  kOpt ((f.frzAll (frzP f c.pre.ob c.pre.fr xs)).wks (nilP (f.frzAll (frzP f c.pre.ob c.pre.fr xs)) c.pre.ob c.pre.fr xs)) fun g => evCallP0 c (g.subsFor xs) d xs K
/-- A hint: the rows that the call to slot d hands back are taken as rows. -/
def rawCon (d : Nat) : Con := ⟨1100000000 + d, ⟨[], []⟩, ⟨[], []⟩, false, fun _ => none⟩
/-- The same callee, its rows taken as rows where a hint says so. -/
def Con.raw (E : List Con) (d : Option Nat) (c : Con) : Con :=
  match d with
  | some d => cond (conOf E (1100000000 + d)).isSome { c with win := false } c
  | none => c
/-- A slot that holds the pointer to box o. -/
def S.isPtr (o : Nat) : S → Bool
  | .val (.one (.ptr o' off)) => o' == o && off == 0
  | _ => false
def ptrSlot (f : F) (o : Nat) : Option Nat := (f.fr.find? fun e => e.2.2.isPtr o).map (·.1)
def evCall (E : List Con) (f : F) (d : Option Nat) (cl : Call) (K : F → Option R) : Option R :=
  match cl.callee with
  | .value (.func g) =>
    match (conOf E g).map (Con.raw E d) with
    | some c =>
      cond c.ptrs (evCallP c f d cl.args.toList K)
      (match c.pre.ob with
      | [] => evCall1 c (if c.post.fr.any (·.2.isSl) then f.noSubs.frzAll (rowsOf f.noSubs cl.args.toList) else f.noSubs) d cl.args.toList K
      | _ => evCallW c f d cl.args.toList K)
    | none => none
  | .value x =>
    match f.getC x with
    | some (.clo g o) =>
      match conOf E g, ptrSlot f o with
      | some c, some s => cond c.ptrs (evCallP c f d (cl.args.toList ++ [.tmp s]) K) none
      | _, _ => none
    | _ => none
  | _ => none

/-! ### regions -/
/-- May what the operation leaves depend on memory? -/
def readsM : Op → Bool
  | .load _ _ => true
  | .convert _ _ _ => true
  | _ => false
/-- Is it an operation that leaves a value and nothing else? -/
def isVal : Op → Bool
  | .alloc _ => false
  | .box _ _ => false
  | .store _ _ _ => false
  | .makeSlice _ _ _ => false
  | .buildSlice _ _ _ => false
  | .call cl =>
    match cl.callee with
    | .builtin .len => true
    | .builtin .max => true
    | .builtin .min => true
    | _ => false
  | _ => true
/-- A row that is cut is data from now on. -/
def preF (f : F) : Op → F
  | .slice _ x _ _ _ => match f.getC x with
    | some (.row r) => f.frzRow r
    | _ => f
  | _ => f
/-- A hint: the slice that goes to slot d cuts its row short. -/
def hintCon (d : Nat) : Con := ⟨1000000000 + d, ⟨[], []⟩, ⟨[], []⟩, false, fun _ => none⟩
def isTrunc (E : List Con) (o : Oper) : Bool :=
  match o.op, o.dst with
  | .slice _ _ none (some _) none, some d => (conOf E (1000000000 + d)).isSome
  | _, _ => false
/-- A row is cut short. -/
def evTrunc (P : Program) (f : F) (o : Oper) (K : F → Option R) : Option R :=
  match o.op, o.dst with
  | .slice t x none (some y) none, some d =>
    match P.underlying t, f.getC x, f.getC y with
    | some (.slice e), some (.row q), some (.v (.int _) n) =>
      match f.obj q, P.info? e with
      | some (.row e' k ty l deep), some i =>
        if i.size = k ∧ pinned q = false then cond (slOk 0 n (l.length : Int)) (K ((f.noSubs.add q (.row e' k ty (l.take n.toNat) deep)).put (some d) (.val (.one (.row q))))) none else none
      | _, _ => none
    | _, _, _ => none
  | _, _ => none
/-- A hint: the slice that is loaded into slot d out of a row's element is one within that element. -/
def subCon (d : Nat) : Con := ⟨1200000000 + d, ⟨[], []⟩, ⟨[], []⟩, false, fun _ => none⟩
def isSubL (E : List Con) (o : Oper) : Bool :=
  match o.op, o.dst with
  | .load _ _, some d => (conOf E (1200000000 + d)).isSome
  | _, _ => false
def evSubL (P : Program) (f : F) (o : Oper) (K : F → Option R) : Option R :=
  match o.op with
  | .load t p =>
    match f.getC p with
    | some (.rp r k i off) =>
      match f.obj r with
      | some (.row _ k' ty l true) => if k = k' then Option.bind l[i]? fun x => kOpt (rdC P t off (subs r k i 0 (split ty x))) fun x => K (f.put o.dst (.val x)) else none
      | _ => none
    | _ => none
  | _ => none
def evAny (P : Program) (E : List Con) (f : F) (o : Oper) (K : F → Option R) : Option R :=
  cond (isTrunc E o) (evTrunc P f o K) (cond (isSubL E o) (evSubL P f o K) (cond (isVal o.op) (evVal P (preF f o.op) (fun s => K ((preF f o.op).put o.dst s)) o.op)
    (match o.op with
    | .call cl =>
      match cl.callee with
      | .builtin .append => evMem P f.noSubs o.dst K o.op
      | _ => evCall E f o.dst cl K
    | .store t p x => cond (isIp f p x) (match o.dst with
      | none => evStoreN P f t p x K
      | some _ => none) (evMem P f.noSubs o.dst K (.store t p x))
    | _ => evMem P f.noSubs o.dst K o.op)))
def inFrame (n : Nat) : Option Nat → Bool
  | some d => decide (d < n)
  | none => true
def F.setB (f : F) (d : Nat) (b : Bool) : F := f.put (some d) (.val (.one (.v .bool b)))
def evOp (P : Program) (n : Nat) (E : List Con) (ops : Array Oper) (f : F) (o : Oper) (K : F → Option R) : Option R :=
  cond (inFrame n o.dst)
  (match o.guard with
  | none => evAny P E f o K
  | some (j, want) =>
    match (ops[j]?).bind (·.dst) with
    | some d =>
      match f.look d with
      | some .un => K (f.put o.dst .un)
      | some (.val (.one (.v .bool b))) =>
        cond b
          (cond want (evAny P E (f.setB d true) o K) (K ((f.setB d true).put o.dst .un)))
          (cond want (K ((f.setB d false).put o.dst .un)) (evAny P E (f.setB d false) o K))
      | _ => none
    | none => none) none
def evOps (P : Program) (n : Nat) (E : List Con) (ops : Array Oper) : List Oper → F → (F → Option R) → Option R
  | [], f, K => K f
  | o :: os, f, K => evOp P n E ops f o fun f' => evOps P n E ops os f' K
/-- May the operation write into memory that is there? -/
def writes (E : List Con) : Op → Bool
  | .store _ _ _ => true
  | .call cl =>
    match cl.callee with
    | .builtin .len => false
    | .builtin .max => false
    | .builtin .min => false
    | .value (.func g) => match conOf E g with
      | some c => !c.pre.ob.isEmpty
      | none => true
    | _ => true
  | _ => false
def wOf (E : List Con) (ops : Array Oper) (j : Nat) : Bool :=
  match ops[j]? with
  | some o => writes E o.op
  | none => false
/-- What is appended to. -/
def appBase : Op → Option Operand
  | .store _ p _ => some p
  | .call cl => match cl.callee, cl.args.toList with
    | .builtin .append, [x, _] => some x
    | _, _ => none
  | _ => none
/-- Does it append? -/
def isApp : Op → Bool
  | .call cl => match cl.callee with
    | .builtin .append => true
    | _ => false
  | _ => false
/-- Does it make new memory? -/
def allocs : Op → Bool
  | .alloc _ => true
  | .box _ _ => true
  | .makeSlice _ _ _ => true
  | .buildSlice _ _ _ => true
  | _ => false
/-- Operation k sets slot t, and makes new memory or appends. -/
def madeBy (ops : Array Oper) (t k : Nat) : Bool :=
  match ops[k]? with
  | some o => (allocs o.op || isApp o.op) && (o.dst == some t)
  | none => false
def setsIt (ops : Array Oper) (t k : Nat) : Bool :=
  match ops[k]? with
  | some o => o.dst == some t
  | none => false
/-- Does k wait for an operation that sets t? -/
def waitsFor (ops : Array Oper) (o : Oper) (k : Nat) : Bool := o.after.any fun e => Region.binds .any e && e.on == k
/-- Operation k, that has not come up, leaves new memory in slot t: it makes it, or appends to nil or to such. -/
def newBy (ops : Array Oper) (listed : Array Bool) : Nat → Nat → Nat → Bool
  | 0, _, _ => false
  | n + 1, t, k => !(listed.getD k true) && (madeBy ops t k && ((List.range ops.size).all (fun q => q == k || !setsIt ops t q) && (match ops[k]? with
    | some o => allocs o.op || (match appBase o.op with
      | some (.const (.slice none 0 0)) => true
      | some (.tmp t') => (List.range ops.size).any fun k' => waitsFor ops o k' && newBy ops listed n t' k'
      | _ => false)
    | none => false)))
/-- What operation j writes is new memory: it appends or stores to nil or to what an operation makes that has not come up. -/
def zOk (ops : Array Oper) (listed : Array Bool) (j : Nat) : Bool :=
  match ops[j]? with
  | some o =>
    match appBase o.op with
    | some (.const (.slice none 0 0)) => true
    | some (.tmp t) => (List.range ops.size).any fun k => waitsFor ops o k && newBy ops listed ops.size t k
    | _ => false
  | none => false
/-- Does operation k wait for i or for one of D? -/
def depOn (ops : Array Oper) (i : Nat) (D : List Nat) (k : Nat) : Bool :=
  match ops[k]? with
  | some o => o.after.any fun e => Region.binds .any e && (e.on == i || D.contains e.on)
  | none => false
/-- What waits for i, through others too. -/
def wdeps (ops : Array Oper) (listed : Array Bool) (i : Nat) : List Nat → List Nat → List Nat
  | [], D => D
  | k :: ks, D => wdeps ops listed i ks (cond (!(listed.getD k true) && depOn ops i D k) (k :: D) D)
/-- Everything that writes and has not come up waits for i. -/
def waitB (E : List Con) (ops : Array Oper) (listed : Array Bool) (i : Nat) : Bool :=
  (List.range ops.size).all fun j => !wOf E ops j || (listed.getD j true || ((wdeps ops listed i (List.range ops.size) []).contains j || zOk ops listed j))
def mayFirst (E : List Con) (ops : Array Oper) (listed : Array Bool) (i : Nat) (o : Oper) : Bool :=
  (Region.ready .any ops listed == [i]) || ((Region.ready .any ops listed).contains i && (Region.free .any ops listed i && ((!readsM o.op || waitB E ops listed i) && isVal o.op)))
/-- Orders of a region's operations. -/
inductive Ord where
  | z
  | op (i : Nat) (o : Ord)
  | alt (i : Nat) (o m : Ord)
def Ord.heads : Ord → List Nat
  | .alt i _ m => i :: m.heads
  | _ => []
open Classical in
/-- Two ways to one result. -/
noncomputable def both (x y : Option R) : Option R := Option.bind x fun r => if y = some r then some r else none
noncomputable def evDraw (P : Program) (n : Nat) (E : List Con) (ops : Array Oper) : Bool → Ord → Array Bool → F → (F → Option R) → Option R
  | b, .z, listed, f, K => cond b none (cond ((Region.ready .any ops listed).isEmpty) (K f) none)
  | b, .op i o, listed, f, K => cond b none
    (match ops[i]? with
    | some oi => cond (mayFirst E ops listed i oi) (evOp P n E ops f oi fun f' => evDraw P n E ops false o (listed.setIfInBounds i true) f' K) none
    | none => none)
  | b, .alt i o m, listed, f, K => cond (b || (Region.ready .any ops listed == i :: m.heads))
    (match ops[i]? with
    | some oi => match m with
      | .z => evOp P n E ops f oi fun f' => evDraw P n E ops false o (listed.setIfInBounds i true) f' K
      | m => both (evOp P n E ops f oi fun f' => evDraw P n E ops false o (listed.setIfInBounds i true) f' K) (evDraw P n E ops true m listed f K)
    | none => none) none
/-- Orders: values as soon as they may come up; all orders where none may be first. -/
def ordOf (E : List Con) (ops : Array Oper) : Nat → Array Bool → Ord
  | 0 => fun _ => .z
  | k + 1 => fun listed =>
    match (Region.ready .any ops listed).find? (fun i => match ops[i]? with
      | some o => mayFirst E ops listed i o
      | none => false) with
    | some i => .op i (ordOf E ops k (listed.setIfInBounds i true))
    | none => (Region.ready .any ops listed).foldr (fun i m => .alt i (ordOf E ops k (listed.setIfInBounds i true)) m) .z

/-! ### code -/
/-- Hints for a walk: shapes at loops and where ways meet. -/
inductive Plan where
  | z
  | seq (p q : Plan)
  | cond (p q : Plan)
  | block (p : Plan)
  | loop (h : Sh) (p : Plan)
  | cut (h : Sh) (p q : Plan)
  | cutR (h : Sh) (p q : Plan)
def Plan.l : Plan → Plan
  | .seq p _ => p
  | .cond p _ => p
  | .block p => p
  | .loop _ p => p
  | .cut _ p _ => p
  | .cutR _ p _ => p
  | .z => .z
def Plan.r : Plan → Plan
  | .seq _ q => q
  | .cond _ q => q
  | .cut _ _ q => q
  | .cutR _ _ q => q
  | _ => .z

def iterM {σ R : Type} (step : σ → Option (σ ⊕ R)) : Nat → σ → Option R
  | 0, _ => none
  | n + 1, s => (step s).bind (Sum.elim (iterM step n) some)
open Classical in
/-- A loop: rounds until one hands over a result. -/
noncomputable def loopM {σ R : Type} (step : σ → Option (σ ⊕ R)) (s : σ) : Option R :=
  if h : ∃ n, (iterM step n s).isSome = true then iterM step h.choose s else none

/-- Slots and objects are listed once, and no number of a change is to come. -/
def F.wf (f : F) : Bool := nodupB (f.fr.map (·.1)) && (nodupB (f.ob.map (·.1)) && (f.fr.all (fun e => Nat.blt e.2.1 f.ctr) && f.ob.all fun e => Nat.blt e.2.1 f.ctr))
/-- The objects of a shape are listed once. -/
def Sh.wf (h : Sh) : Bool := nodupB (h.ob.map (·.1))
noncomputable def ev (P : Program) (n : Nat) (E : List Con) : Code → {R : Type} → Plan → F → (Exit → F → Option R) → Option R
  | .skip, _, _, f, K => K .normal f
  | .ret, _, _, f, K => K .ret f
  | .exit id, _, _, f, K => K (.exit id) f
  | .region _ ops false, _, _, f, K => evOps P n E ops ops.toList f fun f' => K .normal f'
  | .region _ ops true, _, _, f, K => cond (Region.noSelect ops) (evDraw P n E ops false (ordOf E ops ops.size (Array.replicate ops.size false)) (Array.replicate ops.size false) f fun f' => K .normal f') none
  | .seq x y, _, .cut h p q, f, K => cond (f.wf && h.wf)
    (Option.bind (ev P n E x (R := denV h.tys) p f fun e g => match e with
      | .normal => f.fit g h
      | _ => none) fun s => kOpt (f.inj h s) fun g => ev P n E y q g K) none
  | .seq x y, R, .cutR h p q, f, K => cond (f.wf && h.wf)
    (Option.bind (ev P n E x (R := denV h.tys ⊕ R) p f fun e g => match e with
      | .normal => (f.fit g h).map Sum.inl
      | e => (K e g).map Sum.inr) fun s => Sum.elim (fun s => kOpt (f.inj h s) fun g => ev P n E y q g K) some s) none
  | .seq x y, _, pl, f, K => ev P n E x pl.l f fun e g => match e with
      | .normal => ev P n E y pl.r g K
      | e => K e g
  | .cond c x y, _, pl, f, K =>
    match f.getC c with
    | some (.v .bool b) => cond b (ev P n E x pl.l f K) (ev P n E y pl.r f K)
    | _ => none
  | .block id x, _, pl, f, K => ev P n E x pl.l f fun e g => match e with
      | .exit j => if j = id then K .normal g else K (.exit j) g
      | e => K e g
  | .loop x, R, .loop h p, f, K => cond (f.wf && h.wf) (kOpt (f.fit f h) fun s0 =>
      loopM (fun s => kOpt (f.inj h s) fun g => ev P n E x (R := denV h.tys ⊕ R) p g fun e g' => match e with
        | .normal => (f.fit g' h).map Sum.inl
        | e => (K e g').map Sum.inr) s0) none
  | _, _, _, _, _ => none

/-! ### functions -/
def resA1 (P : Program) (f : F) : ResultVar → Option A
  | .tmp t => match f.look t with
    | some (.val x) => some x
    | _ => none
  | .cell t ty => match f.look t with
    | some (.val (.one (.ptr o off))) => match f.obj o with
      | some (.box cs) => rdC P ty off cs
      | _ => none
    | _ => none
def resVs (P : Program) (f : F) : Nat → List ResultVar → Option (List (Nat × Nat × S))
  | _, [] => some []
  | i, r :: rs => match resA1 P f r, resVs P f (i + 1) rs with
    | some a, some xs => some ((i, f.ctr, .val a) :: xs)
    | _, _ => none
noncomputable def evFn (P : Program) (E : List Con) (fn : Func) (pl : Plan) (pre post : Sh) (x : denV pre.tys) : Option (denV post.tys) :=
  match fn.body with
  | some cd => cond (post.wf && (Nat.beq post.fr.length fn.results.size && Nat.ble pre.fr.length fn.ntmps)) (kOpt (F0.inj pre x) fun f => ev P fn.ntmps E cd pl f fun e g =>
    match e with
    | .ret => kOpt (resVs P g 0 fn.results.toList) fun rs => F0.fit ⟨g.ctr + 1, rs, g.ob⟩ post
    | .normal => kOpt (resVs P g 0 fn.results.toList) fun rs => F0.fit ⟨g.ctr + 1, rs, g.ob⟩ post
    | _ => none) none
  | none => none
end
end Go.V
set_option linter.unusedVariables false
namespace Go.V
open Go.Ab Go.RowKit

inductive All2 {α β : Type} (R : α → β → Prop) : List α → List β → Prop
  | nil : All2 R [] []
  | cons {a : α} {b : β} {as : List α} {bs : List β} (h : R a b) (hs : All2 R as bs) : All2 R (a :: as) (b :: bs)

section
variable {α β : Type} {R R' : α → β → Prop}
theorem All2.length {as : List α} {bs : List β} (h : All2 R as bs) : as.length = bs.length := by
  induction h with
  | nil => rfl
  | cons _ _ ih => simp [ih]
theorem All2.mono {as : List α} {bs : List β} (h : All2 R as bs) (hr : ∀ a b, b ∈ bs → R a b → R' a b) : All2 R' as bs := by
  induction h with
  | nil => exact .nil
  | cons h hs ih => exact .cons (hr _ _ (List.mem_cons_self ..) h) (ih fun a b hb => hr a b (List.mem_cons_of_mem _ hb))
theorem All2.get {as : List α} {bs : List β} (h : All2 R as bs) : ∀ {j : Nat} {b : β}, bs[j]? = some b → ∃ a, as[j]? = some a ∧ R a b := by
  induction h with
  | nil => intro j b hb; simp at hb
  | cons h hs ih =>
    intro j b hb
    cases j with
    | zero => simp at hb; subst hb; exact ⟨_, rfl, h⟩
    | succ j => obtain ⟨a, ha, hr⟩ := ih (j := j) (b := b) (by simpa using hb); exact ⟨a, by simpa using ha, hr⟩
theorem All2.take {as : List α} {bs : List β} (h : All2 R as bs) : ∀ n, All2 R (as.take n) (bs.take n) := by
  induction h with
  | nil => intro n; simpa using .nil
  | cons h hs ih =>
    intro n
    cases n with
    | zero => exact .nil
    | succ n => exact .cons h (ih n)
theorem All2.drop {as : List α} {bs : List β} (h : All2 R as bs) : ∀ n, All2 R (as.drop n) (bs.drop n) := by
  induction h with
  | nil => intro n; simpa using .nil
  | cons h hs ih =>
    intro n
    cases n with
    | zero => exact .cons h hs
    | succ n => exact ih n
theorem All2.set {as : List α} {bs : List β} (h : All2 R as bs) {a : α} {b : β} (hr : R a b) : ∀ n, All2 R (as.set n a) (bs.set n b) := by
  induction h with
  | nil => intro n; simpa using .nil
  | cons h hs ih =>
    intro n
    cases n with
    | zero => exact .cons hr hs
    | succ n => exact .cons h (ih n)
theorem All2.append {as as' : List α} {bs bs' : List β} (h : All2 R as bs) (h' : All2 R as' bs') : All2 R (as ++ as') (bs ++ bs') := by
  induction h with
  | nil => exact h'
  | cons h hs ih => exact .cons h ih
theorem All2.comp {γ : Type} {S : γ → β → Prop} {Q : α → γ → Prop} {as : List α} {bs : List β} {cs : List γ} (h : All2 R as bs) (h' : All2 S cs bs) (hq : ∀ a b c, R a b → S c b → Q a c) : All2 Q as cs := by
  induction h generalizing cs with
  | nil => cases h'; exact .nil
  | cons h hs ih => cases h' with | cons h1 h2 => exact .cons (hq _ _ _ h h1) (ih h2)
end

structure Cx where
  loc : Nat → Nat
  rv : Nat → Value

/-- A slice that begins where another one does and is not longer. -/
def PreV (v v0 : Value) : Prop := v = v0 ∨ ∃ ad n n0 cap, v = .slice ad n cap ∧ v0 = .slice ad n0 cap ∧ n ≤ n0
/-- What lies at an address begins with a slice (and is it, if the size of elements is told). -/
def At0 (w : World) (k : Nat) (a : Addr) (v : Value) : Prop := ∃ v0, w.cell? a = some v0 ∧ PreV v v0 ∧ (0 < k → v = v0)
def RelC (c : Cx) (ow : Nat → Option Nat) (w : World) (ok : Nat → Prop) (v : Value) : C → Prop
  | .v t x => ∃ G, Rep w v (leafT t x) G ∧ ∀ b ∈ G, ok b
  | .nil => v = .slice none 0 0
  | .row r => v = c.rv r
  | .ptr o off => v = .pointer (some ⟨c.loc o, off, none⟩)
  | .ep t x off => ∃ b base, v = .pointer (some ⟨b, base + off, none⟩) ∧ ok b ∧ b < w.heap.size ∧ ∃ xs G, RepL w xs (cells t x) G ∧ (∀ j u, xs[j]? = some u → w.cell? ⟨b, base + j, none⟩ = some u) ∧ ∀ b ∈ G, ok b
  | .rp r k i off => ∃ g b0 n cap, c.rv r = .slice (some ⟨g, b0, none⟩) n cap ∧ v = .pointer (some ⟨g, b0 + (i * k + off), none⟩)
  | .sub r k i off t x => ∃ g b0 n cap, c.rv r = .slice (some ⟨g, b0, none⟩) n cap ∧ At0 w k ⟨g, b0 + (i * k + off), none⟩ v ∧ ∃ G, Rep w v (leafT (.sl t) x) G ∧ ∀ b ∈ G, ow b = some r
  | .ip r k i off m j q => ∃ g b0 n cap g2 b2 n2 cap2, c.rv r = .slice (some ⟨g, b0, none⟩) n cap ∧ w.cell? ⟨g, b0 + (i * k + off), none⟩ = some (.slice (some ⟨g2, b2, none⟩) n2 cap2) ∧ v = .pointer (some ⟨g2, b2 + (j * m + q), none⟩)
  | .clo g o => v = .func (.func g) #[] #[.pointer (some ⟨c.loc o, 0, none⟩)]
  | .any => v.oneCell' = true
def RelA (c : Cx) (ow : Nat → Option Nat) (w : World) (ok : Nat → Prop) (v : Value) : A → Prop
  | .one x => RelC c ow w ok v x
  | .agg cs => ∃ vs : List Value, v = .agg vs.toArray ∧ All2 (RelC c ow w ok) vs cs
def RelS (c : Cx) (ow : Nat → Option Nat) (w : World) (ok : Nat → Prop) (v : Value) : S → Prop
  | .val x => RelA c ow w ok v x
  | .tup xs => ∃ vs : List Value, v = .tuple vs.toArray ∧ All2 (RelA c ow w ok) vs xs
  | .un => v = undef

def F.subFree (f : F) : Prop := (∀ s n x, (s, n, x) ∈ f.fr → x.isSub = false) ∧ ∀ o n x, (o, n, x) ∈ f.ob → x.isSub = false

/-- What stays when the world turns: blocks that are let stay as they are, none is let anew that was there. -/
structure Keeps (w w' : World) (ok ok' : Nat → Prop) : Prop where
  size : w.heap.size ≤ w'.heap.size
  block : ∀ b, b < w.heap.size → ok b → w'.heap[b]? = w.heap[b]?
  good : ∀ b, b < w.heap.size → ok b → ok' b

section
variable {c : Cx} {ow ow' : Nat → Option Nat} {w w' : World} {ok ok' : Nat → Prop} {v : Value}
theorem RelC.keep {x : C} (h : RelC c ow w ok v x) (hs : x.isSub = false) (k : Keeps w w' ok ok') : RelC c ow' w' ok' v x := by
  cases x with
  | v t x =>
    obtain ⟨G, hr, hG⟩ := h
    exact ⟨G, hr.frame fun b hb => k.block b (hr.lt b hb) (hG b hb), fun b hb => k.good b (hr.lt b hb) (hG b hb)⟩
  | ep t x off =>
    obtain ⟨b, base, hv, hb, hlt, xs, G, hr, hc, hG⟩ := h
    exact ⟨b, base, hv, k.good b hlt hb, Nat.lt_of_lt_of_le hlt k.size, xs, G, hr.frame fun b hb => k.block b (hr.lt b hb) (hG b hb),
      fun j u hu => (World.cell?_of_block (k.block b hlt hb)).trans (hc j u hu), fun b hb => k.good b (hr.lt b hb) (hG b hb)⟩
  | sub _ _ _ _ _ _ => cases hs
  | ip _ _ _ _ _ _ _ => cases hs
  | nil => exact h
  | row _ => exact h
  | ptr _ _ => exact h
  | rp _ _ _ _ => exact h
  | clo _ _ => exact h
  | any => exact h
theorem RelA.keep {x : A} (h : RelA c ow w ok v x) (hs : x.isSub = false) (k : Keeps w w' ok ok') : RelA c ow' w' ok' v x := by
  cases x with
  | one t => exact RelC.keep h hs k
  | agg ts =>
    simp only [A.isSub, List.any_eq_false] at hs
    obtain ⟨vs, hv, ha⟩ := h
    exact ⟨vs, hv, ha.mono fun a b hb hr => hr.keep (by simpa using hs b hb) k⟩
theorem RelS.keep {x : S} (h : RelS c ow w ok v x) (hs : x.isSub = false) (k : Keeps w w' ok ok') : RelS c ow' w' ok' v x := by
  cases x with
  | val x => exact RelA.keep h hs k
  | tup xs =>
    simp only [S.isSub, List.any_eq_false] at hs
    obtain ⟨vs, hv, ha⟩ := h
    exact ⟨vs, hv, ha.mono fun a b hb hr => hr.keep (by simpa using hs b hb) k⟩
  | un => exact h
/-- The same world, more blocks let. -/
theorem RelC.good {x : C} (h : RelC c ow w ok v x) (k : ∀ b, b < w.heap.size → ok b → ok' b) : RelC c ow w ok' v x := by
  cases x with
  | v t x => obtain ⟨G, hr, hG⟩ := h; exact ⟨G, hr, fun b hb => k b (hr.lt b hb) (hG b hb)⟩
  | ep t x off =>
    obtain ⟨b, base, hv, hb, hlt, xs, G, hr, hc, hG⟩ := h
    exact ⟨b, base, hv, k b hlt hb, hlt, xs, G, hr, hc, fun b hb => k b (hr.lt b hb) (hG b hb)⟩
  | sub _ _ _ _ _ _ => exact h
  | ip _ _ _ _ _ _ _ => exact h
  | nil => exact h
  | row _ => exact h
  | ptr _ _ => exact h
  | rp _ _ _ _ => exact h
  | clo _ _ => exact h
  | any => exact h
theorem RelA.good {x : A} (h : RelA c ow w ok v x) (k : ∀ b, b < w.heap.size → ok b → ok' b) : RelA c ow w ok' v x := by
  cases x with
  | one t => exact RelC.good h k
  | agg ts => obtain ⟨vs, hv, ha⟩ := h; exact ⟨vs, hv, ha.mono fun a b _ hr => hr.good k⟩
theorem RelS.good {x : S} (h : RelS c ow w ok v x) (k : ∀ b, b < w.heap.size → ok b → ok' b) : RelS c ow w ok' v x := by
  cases x with
  | val x => exact RelA.good h k
  | tup xs => obtain ⟨vs, hv, ha⟩ := h; exact ⟨vs, hv, ha.mono fun a b _ hr => hr.good k⟩
  | un => exact h
end

/-- Two contexts that agree but for object d. -/
structure Cx.but (c c' : Cx) (d : Nat) : Prop where
  loc : ∀ o, o ≠ d → c'.loc o = c.loc o
  rv : ∀ o, o ≠ d → c'.rv o = c.rv o
def Cx.setLoc (c : Cx) (d b : Nat) : Cx := { c with loc := fun o => if o = d then b else c.loc o }
def Cx.setRv (c : Cx) (d : Nat) (v : Value) : Cx := { c with rv := fun o => if o = d then v else c.rv o }
theorem Cx.but_loc (c : Cx) (d b : Nat) : c.but (c.setLoc d b) d := ⟨fun o h => by simp [Cx.setLoc, h], fun _ _ => rfl⟩
theorem Cx.but_rv (c : Cx) (d : Nat) (v : Value) : c.but (c.setRv d v) d := ⟨fun _ _ => rfl, fun o h => by simp [Cx.setRv, h]⟩

section
variable {c c' : Cx} {ow : Nat → Option Nat} {w : World} {ok : Nat → Prop} {v : Value} {d : Nat}
theorem RelC.but {x : C} (h : RelC c ow w ok v x) (hd : x.names d = false) (k : c.but c' d) : RelC c' ow w ok v x := by
  cases x with
  | row r => simp [C.names] at hd; simp only [RelC] at h ⊢; rw [k.rv r hd]; exact h
  | ptr o off => simp [C.names] at hd; simp only [RelC] at h ⊢; rw [k.loc o hd]; exact h
  | rp r k' i off => simp [C.names] at hd; simp only [RelC] at h ⊢; rw [k.rv r hd]; exact h
  | sub r k' i off t x => simp [C.names] at hd; simp only [RelC] at h ⊢; rw [k.rv r hd]; exact h
  | ip r k' i off m j q => simp [C.names] at hd; simp only [RelC] at h ⊢; rw [k.rv r hd]; exact h
  | clo g o => simp [C.names] at hd; simp only [RelC] at h ⊢; rw [k.loc o hd]; exact h
  | v _ _ => exact h
  | nil => exact h
  | ep _ _ _ => exact h
  | any => exact h
theorem RelA.but {x : A} (h : RelA c ow w ok v x) (hd : x.names d = false) (k : c.but c' d) : RelA c' ow w ok v x := by
  cases x with
  | one t => exact RelC.but h hd k
  | agg ts =>
    obtain ⟨vs, hv, ha⟩ := h
    simp only [A.names, List.any_eq_false] at hd
    exact ⟨vs, hv, ha.mono fun a b hb hr => hr.but (by simpa using hd b hb) k⟩
theorem RelS.but {x : S} (h : RelS c ow w ok v x) (hd : x.names d = false) (k : c.but c' d) : RelS c' ow w ok v x := by
  cases x with
  | val x => exact RelA.but h hd k
  | tup xs =>
    obtain ⟨vs, hv, ha⟩ := h
    simp only [S.names, List.any_eq_false] at hd
    exact ⟨vs, hv, ha.mono fun a b hb hr => hr.but (by simpa using hd b hb) k⟩
  | un => exact h
end

def tyLen : Ty → Nat
  | .pair a b => tyLen a + tyLen b
  | _ => 1
theorem cells_len : ∀ (t : Ty) (x : den t), (cells t x).length = tyLen t
  | .int _, _ => rfl
  | .bool, _ => rfl
  | .str, _ => rfl
  | .sl _, _ => rfl
  | .pair a b, x => by simp [cells, tyLen, cells_len a, cells_len b]
theorem split_len : ∀ (t : Ty) (x : den t), (split t x).length = tyLen t
  | .int _, _ => rfl
  | .bool, _ => rfl
  | .str, _ => rfl
  | .sl _, _ => rfl
  | .pair a b, x => by simp [split, tyLen, split_len a, split_len b]

/-- The blocks of an object that may be written. -/
def O.blk (c : Cx) (ow : Nat → Option Nat) (o : Nat) : O → Nat → Prop
  | .box _, b => c.loc o = b
  | .row _ _ _ _ _, b => (c.rv o).ownBlock = some b
  | .win _ _ _, b => ow b = some o
def live (c : Cx) (ow : Nat → Option Nat) (ob : List (Nat × Nat × O)) (b : Nat) : Prop := ∃ o n x, (o, n, x) ∈ ob ∧ x.blk c ow o b
def okB (src : Nat → Prop) (c : Cx) (ow : Nat → Option Nat) (ob : List (Nat × Nat × O)) (b : Nat) : Prop := src b ∧ ¬ live c ow ob b
def Unf (w : World) (b : Nat) : Prop := ∃ cs e, w.heap[b]? = some (.cells cs e (0, 0))

def BoxOk (M : Nat → Prop) (c : Cx) (ow : Nat → Option Nat) (w : World) (ok : Nat → Prop) (o : Nat) (cs : List C) : Prop :=
  M (c.loc o) ∧ ow (c.loc o) = some o ∧ ∃ (vs : List Value) (ty : TypeId), w.heap[c.loc o]? = some (.cells vs.toArray ty (0, 0)) ∧ All2 (RelC c ow w ok) vs cs
def RowOk (M : Nat → Prop) (c : Cx) (ow : Nat → Option Nat) (w : World) (ok : Nat → Prop) (r e k : Nat) (t : Ty) (l : List (den t)) (deep : Bool) : Prop :=
  0 < k ∧ tyLen t = k ∧ (∀ g, (c.rv r).ownBlock = some g → M g ∧ ow g = some r) ∧
  ∃ (xs : List Value) (G : List Nat), w.ownsRow 0 e k (c.rv r) l.length xs ∧ RepL w xs (l.map (cells t)).flatten G ∧ (∀ b ∈ G, ok b) ∧
    (deep = true → G.Nodup ∧ ∀ b ∈ G, M b ∧ ow b = some r ∧ (c.rv r).ownBlock ≠ some b ∧ Unf w b)
def WinOk (M : Nat → Prop) (c : Cx) (ow : Nat → Option Nat) (w : World) (r k : Nat) (t : Ty) (l : List (den t)) : Prop :=
  0 < k ∧ tyLen t = k ∧ ∃ G, Rep w (c.rv r) (leafT (.sl t) l) G ∧ G.Nodup ∧ ∀ b ∈ G, M b ∧ ow b = some r ∧ Unf w b
def ObOk (M : Nat → Prop) (c : Cx) (ow : Nat → Option Nat) (w : World) (ok : Nat → Prop) (o : Nat) : O → Prop
  | .box cs => BoxOk M c ow w ok o cs
  | .row e k t l deep => RowOk M c ow w ok o e k t l deep
  | .win k t l => WinOk M c ow w o k t l

structure SimC (M src : Nat → Prop) (c : Cx) (ow : Nat → Option Nat) (f : F) (a : Act) (w : World) : Prop where
  defers : a.defers = []
  fr : ∀ s n x, (s, n, x) ∈ f.fr → ∃ v, a.tmps[s]? = some v ∧ RelS c ow w (okB src c ow f.ob) v x
  ob : ∀ o n x, (o, n, x) ∈ f.ob → ObOk M c ow w (okB src c ow f.ob) o x
  uniq : ∀ o n x m y, (o, n, x) ∈ f.ob → (o, m, y) ∈ f.ob → x = y
  rvs : ∀ r, ∃ ad n k, c.rv r = .slice ad n k

theorem Unf.keep {w w' : World} {b : Nat} (h : Unf w b) (hk : w'.heap[b]? = w.heap[b]?) : Unf w' b := by
  obtain ⟨cs, e, h⟩ := h; exact ⟨cs, e, hk.trans h⟩
theorem Unf.lt {w : World} {b : Nat} (h : Unf w b) : b < w.heap.size := by
  obtain ⟨cs, e, h⟩ := h; exact (Array.getElem?_eq_some_iff.1 h).1

theorem ownsRow_keep {w w' : World} {B e k : Nat} {v : Value} {n : Nat} {xs : List Value} (h : w.ownsRow B e k v n xs) (hk : ∀ g, v.ownBlock = some g → w'.heap[g]? = w.heap[g]?) : w'.ownsRow B e k v n xs := by
  obtain ⟨h1, h2⟩ := h
  refine ⟨h1, ?_⟩
  rcases h2 with h2 | ⟨g, cap, cur, hv, hB, hh, hr⟩
  · exact .inl h2
  · exact .inr ⟨g, cap, cur, hv, hB, by rw [hk g (by simp [hv, Value.ownBlock])]; exact hh, hr⟩
theorem ownsRow_lt {w : World} {B e k : Nat} {v : Value} {n : Nat} {xs : List Value} (h : w.ownsRow B e k v n xs) {g : Nat} (hg : v.ownBlock = some g) : g < w.heap.size ∧ B ≤ g := by
  obtain ⟨_, h2⟩ := h
  rcases h2 with ⟨h2, _⟩ | ⟨g', cap, cur, hv, hB, hh, hr⟩
  · simp [h2, Value.ownBlock] at hg
  · simp [hv, Value.ownBlock] at hg; subst hg; exact ⟨(Array.getElem?_eq_some_iff.1 hh).1, hB⟩

section
variable {M src : Nat → Prop} {c : Cx} {ow ow' : Nat → Option Nat} {w w' : World} {ok ok' : Nat → Prop}
theorem BoxOk.lt {o : Nat} {cs : List C} (h : BoxOk M c ow w ok o cs) : c.loc o < w.heap.size := by
  obtain ⟨_, _, vs, ty, hh, _⟩ := h; exact (Array.getElem?_eq_some_iff.1 hh).1
theorem ObOk.own {o : Nat} {x : O} (h : ObOk M c ow w ok o x) {b : Nat} (hb : x.blk c ow o b) : ow b = some o := by
  cases x with
  | box cs => have hb : c.loc o = b := hb; subst hb; exact h.2.1
  | row e k t l deep => obtain ⟨r0, r1, r2, _⟩ := h; exact (r2 b hb).2
  | win k t l => exact hb
/-- An object whose blocks have not turned. -/
theorem ObOk.keep {o : Nat} {x : O} (h : ObOk M c ow w ok o x) (hs : x.isSub = false) (kp : Keeps w w' ok ok') (hb : ∀ b, b < w.heap.size → ow b = some o → x.blk c ow o b → w'.heap[b]? = w.heap[b]?)
    (ho : ∀ b, b < w.heap.size → ow b = some o → ow' b = some o) : ObOk M c ow' w' ok' o x := by
  cases x with
  | box cs =>
    have hlt := BoxOk.lt h
    obtain ⟨h1, h2, vs, ty, hh, ha⟩ := h
    simp only [O.isSub, List.any_eq_false] at hs
    exact ⟨h1, ho _ hlt h2, vs, ty, by rw [hb _ hlt h2 rfl]; exact hh, ha.mono fun a b hb hr => hr.keep (by simpa using hs b hb) kp⟩
  | row e k t l deep =>
    obtain ⟨h0, h1, h2, xs, G, h3, h4, h5, h6⟩ := h
    refine ⟨h0, h1, fun g hg => ?_, xs, G, ownsRow_keep h3 fun g hg => hb g (ownsRow_lt h3 hg).1 (h2 g hg).2 hg, h4.frame fun b hb => kp.block b (h4.lt b hb) (h5 b hb), fun b hb => kp.good b (h4.lt b hb) (h5 b hb), fun hd => ?_⟩
    · exact ⟨(h2 g hg).1, ho g (ownsRow_lt h3 hg).1 (h2 g hg).2⟩
    · obtain ⟨h7, h8⟩ := h6 hd
      refine ⟨h7, fun b hb => ?_⟩
      obtain ⟨h9, h10, h11, h12⟩ := h8 b hb
      exact ⟨h9, ho b (h4.lt b hb) h10, h11, h12.keep (kp.block b (h4.lt b hb) (h5 b hb))⟩
  | win k t l =>
    obtain ⟨h0, h1, G, h2, h3, h4⟩ := h
    have hblk : ∀ b ∈ G, w'.heap[b]? = w.heap[b]? := fun b hbG => hb b (h2.lt b hbG) (h4 b hbG).2.1 (h4 b hbG).2.1
    exact ⟨h0, h1, G, h2.frame hblk, h3, fun b hbG => ⟨(h4 b hbG).1, ho b (h2.lt b hbG) (h4 b hbG).2.1, (h4 b hbG).2.2.keep (hblk b hbG)⟩⟩
end
section
variable {c : Cx} {ow : Nat → Option Nat} {w : World} {ok : Nat → Prop}
theorem solid_cell (hrv : ∀ r, ∃ ad n k, c.rv r = .slice ad n k) {t : C} {v : Value} (h : RelC c ow w ok v t) (hs : t.solid = true) : v.oneCell' = true ∧ v.cells = #[v] := by
  cases t with
  | v t x =>
    obtain ⟨G, hr, _⟩ := h
    generalize leafT t x = d at hr
    cases hr with
    | lit hp => cases v <;> simp [plain] at hp <;> exact ⟨rfl, rfl⟩
    | nil _ => exact ⟨rfl, rfl⟩
    | cons _ _ _ _ _ _ _ _ _ => exact ⟨rfl, rfl⟩
  | nil => have h : v = .slice none 0 0 := h; subst h; exact ⟨rfl, rfl⟩
  | row r => have h : v = c.rv r := h; obtain ⟨ad, n, k, he⟩ := hrv r; rw [he] at h; subst h; exact ⟨rfl, rfl⟩
  | ptr o off => have h : v = _ := h; subst h; exact ⟨rfl, rfl⟩
  | ep _ _ _ => obtain ⟨b, base, rfl, _⟩ := h; exact ⟨rfl, rfl⟩
  | rp _ _ _ _ => obtain ⟨g, b0, n, cap, _, rfl⟩ := h; exact ⟨rfl, rfl⟩
  | sub _ _ _ _ t x =>
    obtain ⟨_, _, _, _, _, _, G, hr, _⟩ := h
    generalize leafT (.sl t) x = d at hr
    cases hr with
    | lit hp => cases v <;> simp [plain] at hp <;> exact ⟨rfl, rfl⟩
    | nil _ => exact ⟨rfl, rfl⟩
    | cons _ _ _ _ _ _ _ _ _ => exact ⟨rfl, rfl⟩
  | ip _ _ _ _ _ _ _ => obtain ⟨_, _, _, _, _, _, _, _, _, _, rfl⟩ := h; exact ⟨rfl, rfl⟩
  | clo _ _ => cases hs
  | any => exact ⟨h, by have h : v.oneCell' = true := h; cases v <;> first | rfl | (cases h)⟩
theorem one_cell (hrv : ∀ r, ∃ ad n k, c.rv r = .slice ad n k) {t : C} {v : Value} (h : RelC c ow w ok v t) : v.oneCell' = true := by
  cases t with
  | clo g o => have h : v = _ := h; subst h; rfl
  | _ => exact (solid_cell hrv h rfl).1
end
end Go.V
set_option linter.unusedVariables false
namespace Go.V
open Go.Ab Go.RowKit

/-- What has not been changed since is as it was. -/
structure Ext (f g : F) : Prop where
  ctr : f.ctr ≤ g.ctr
  fr : ∀ s n x, (s, n, x) ∈ g.fr → n < f.ctr → (s, n, x) ∈ f.fr
  ob : ∀ o n x, (o, n, x) ∈ g.ob → n < f.ctr → (o, n, x) ∈ f.ob
theorem Ext.refl (f : F) : Ext f f := ⟨Nat.le_refl _, fun _ _ _ h _ => h, fun _ _ _ h _ => h⟩
theorem Ext.trans {f g h : F} (a : Ext f g) (b : Ext g h) : Ext f h :=
  ⟨Nat.le_trans a.ctr b.ctr, fun s n x hm hn => a.fr s n x (b.fr s n x hm (Nat.lt_of_lt_of_le hn a.ctr)) hn, fun s n x hm hn => a.ob s n x (b.ob s n x hm (Nat.lt_of_lt_of_le hn a.ctr)) hn⟩
theorem Ext.put (f : F) (d : Option Nat) (x : S) : Ext f (f.put d x) := by
  cases d with
  | none => exact .refl _
  | some d =>
    refine ⟨Nat.le_succ _, fun s n y hm hn => ?_, fun _ _ _ h _ => h⟩
    simp only [F.put, List.mem_cons, List.mem_filter] at hm
    rcases hm with hm | hm
    · injection hm with _ hm; injection hm with e _; omega
    · exact hm.1

section
variable {M src : Nat → Prop} {c : Cx} {ow : Nat → Option Nat} {f g : F} {a : Act} {w : World}

/-- A slot is filled anew. -/
theorem SimC.put (h : SimC M src c ow f a w) {d : Nat} {x : S} {v : Value} (hd : d < a.tmps.size) (hx : RelS c ow w (okB src c ow f.ob) v x) : SimC M src c ow (f.put (some d) x) (a.put (some d) v) w := by
  refine ⟨h.defers, ?_, h.ob, h.uniq, h.rvs⟩
  intro s n y hm
  simp only [F.put, List.mem_cons, List.mem_filter] at hm
  rcases hm with hm | ⟨hm, hne⟩
  · injection hm with e1 hm
    injection hm with e2 e3
    subst e1 e2 e3
    exact ⟨v, by simp [Act.put, hd], hx⟩
  · obtain ⟨u, hu, h1⟩ := h.fr s n y hm
    have hne' : s ≠ d := by simpa using hne
    exact ⟨u, by simp only [Act.put]; rw [Array.getElem?_setIfInBounds_ne (Ne.symm hne')]; exact hu, h1⟩

/-- A weaker cell, a weaker object. -/
def C.le (c' c : C) : Prop := c' = c ∨ c' = .any
inductive O.le : O → O → Prop
  | box {cs' cs : List C} (h : All2 C.le cs' cs) : O.le (.box cs') (.box cs)
  | row {e k : Nat} {t : Ty} {l : List (den t)} {deep' deep : Bool} (h : deep' = true → deep = true) : O.le (.row e k t l deep') (.row e k t l deep)
  | win {k : Nat} {t : Ty} {l : List (den t)} : O.le (.win k t l) (.win k t l)
theorem O.le_refl (x : O) : x.le x := by
  cases x with
  | box cs =>
    refine .box ?_
    induction cs with
    | nil => exact .nil
    | cons t ts ih => exact .cons (.inl rfl) ih
  | row e k t l deep => exact .row id
  | win k t l => exact .win
theorem O.le.blk {x y : O} (h : x.le y) {o b : Nat} (hb : x.blk c ow o b) : y.blk c ow o b := by
  cases h with
  | box _ => exact hb
  | row _ => exact hb
  | win => exact hb

theorem SimC.weak (h : SimC M src c ow f a w) (hf : ∀ s n x, (s, n, x) ∈ g.fr → ∃ m, (s, m, x) ∈ f.fr) (ho : ∀ o n x, (o, n, x) ∈ g.ob → ∃ m y, (o, m, y) ∈ f.ob ∧ x.le y)
    (hu : ∀ o n x m y, (o, n, x) ∈ g.ob → (o, m, y) ∈ g.ob → x = y) : SimC M src c ow g a w := by
  have hlive : ∀ b, live c ow g.ob b → live c ow f.ob b := by
    rintro b ⟨o, n, y, hm, hy⟩
    obtain ⟨m, x, hx, hle⟩ := ho o n y hm
    exact ⟨o, m, x, hx, hle.blk hy⟩
  have kg : ∀ b, b < w.heap.size → okB src c ow f.ob b → okB src c ow g.ob b := fun b _ hb => ⟨hb.1, fun hl => hb.2 (hlive b hl)⟩
  refine ⟨h.defers, fun s n x hm => ?_, fun o n y hm => ?_, hu, h.rvs⟩
  · obtain ⟨m, hm'⟩ := hf s n x hm
    obtain ⟨v, hv, h1⟩ := h.fr s m x hm'
    exact ⟨v, hv, h1.good kg⟩
  · obtain ⟨m, x, hx, hle⟩ := ho o n y hm
    have hok := h.ob o m x hx
    cases hle with
    | box hall =>
      obtain ⟨b1, b2, vs, ty, b3, b4⟩ := hok
      exact ⟨b1, b2, vs, ty, b3, b4.comp hall fun u t t' hr ht => by
        rcases ht with rfl | rfl
        · exact RelC.good hr kg
        · exact one_cell h.rvs hr⟩
    | row hd =>
      obtain ⟨r0, r1, r2, xs, G, r3, r4, r5, r6⟩ := hok
      exact ⟨r0, r1, r2, xs, G, r3, r4, fun b hb => kg b (r4.lt b hb) (r5 b hb), fun hd' => r6 (hd hd')⟩
    | win => exact hok

theorem scrubC_le (d : Nat) (cs : List C) : All2 C.le (cs.map (scrubC d)) cs := by
  induction cs with
  | nil => exact .nil
  | cons t ts ih => exact .cons (by unfold scrubC; split <;> simp [C.le]) ih
theorem O.scrub_le (d : Nat) (x : O) : (x.scrub d).le x := by
  cases x with
  | box cs => exact .box (scrubC_le d cs)
  | row e k t l deep => exact .row id
  | win k t l => exact .win
theorem scrub_mem {d : Nat} {o n : Nat} {x : O} (h : (o, n, x) ∈ (f.scrub d).ob) : o ≠ d ∧ ∃ m y, (o, m, y) ∈ f.ob ∧ (x = y.scrub d ∨ (x = y ∧ y.names d = false ∧ n = m)) := by
  simp only [F.scrub, List.mem_map, List.mem_filter] at h
  obtain ⟨⟨o', m, y⟩, ⟨hm, hne⟩, he⟩ := h
  have hne' : o' ≠ d := by simpa using hne
  cases hn : y.names d with
  | true =>
    simp only [hn, if_true] at he
    injection he with e1 e2
    injection e2 with e2 e3
    subst e1 e3
    exact ⟨hne', m, y, hm, .inl rfl⟩
  | false =>
    simp only [hn] at he
    injection he with e1 e2
    injection e2 with e2 e3
    subst e1 e2 e3
    exact ⟨hne', m, y, hm, .inr ⟨rfl, hn, rfl⟩⟩
theorem O.scrub_self {x : O} {d : Nat} (h : x.names d = false) : x.scrub d = x := by
  cases x with
  | box cs =>
    simp only [O.names, List.any_eq_false] at h
    simp only [O.scrub]
    congr 1
    induction cs with
    | nil => rfl
    | cons c cs ih =>
      rw [List.map_cons, ih fun x hx => h x (List.mem_cons_of_mem _ hx)]
      simp [scrubC, h c (List.mem_cons_self ..)]
  | row _ _ _ _ _ => rfl
  | win _ _ _ => rfl
theorem scrub_mem' {d : Nat} {o n : Nat} {x : O} (h : (o, n, x) ∈ (f.scrub d).ob) : o ≠ d ∧ ∃ m y, (o, m, y) ∈ f.ob ∧ x = y.scrub d := by
  obtain ⟨h1, m, y, h2, h3⟩ := scrub_mem h
  refine ⟨h1, m, y, h2, ?_⟩
  rcases h3 with rfl | ⟨rfl, hn, _⟩
  · rfl
  · rw [O.scrub_self hn]
theorem O.scrub_names (x : O) (d : Nat) : (x.scrub d).names d = false := by
  cases x with
  | box cs =>
    simp only [O.scrub, O.names, List.any_eq_false, List.mem_map]
    rintro t ⟨u, _, rfl⟩
    unfold scrubC
    split
    · simp [C.names]
    · assumption
  | row _ _ _ _ _ => rfl
  | win _ _ _ => rfl
theorem SimC.scrub (h : SimC M src c ow f a w) (d : Nat) : SimC M src c ow (f.scrub d) a w := by
  refine h.weak (fun s n x hm => ⟨n, (List.mem_filter.1 hm).1⟩) (fun o n x hm => ?_) (fun o n x m y hx hy => ?_)
  · obtain ⟨_, m, y, hy, rfl⟩ := scrub_mem' hm
    exact ⟨m, y, hy, O.scrub_le d y⟩
  · obtain ⟨_, _, x', hx', rfl⟩ := scrub_mem' hx
    obtain ⟨_, _, y', hy', rfl⟩ := scrub_mem' hy
    rw [h.uniq _ _ _ _ _ hx' hy']
theorem Ext.scrub (f : F) (d : Nat) : Ext f (f.scrub d) := by
  refine ⟨Nat.le_succ _, fun s n x hm _ => (List.mem_filter.1 hm).1, fun o n x hm hn => ?_⟩
  simp only [F.scrub, List.mem_map, List.mem_filter] at hm
  obtain ⟨⟨o', m, y⟩, ⟨hm, _⟩, he⟩ := hm
  split at he
  · injection he with _ he; injection he with e _; omega
  · rw [← he]; exact hm

/-- Object d is named nowhere. -/
def F.free (f : F) (d : Nat) : Prop := (∀ s n x, (s, n, x) ∈ f.fr → x.names d = false) ∧ ∀ o n x, (o, n, x) ∈ f.ob → o ≠ d ∧ x.names d = false
theorem free_scrub (f : F) (d : Nat) : (f.scrub d).free d := by
  refine ⟨fun s n x h => ?_, fun o n x h => ?_⟩
  · have := (List.mem_filter.1 h).2
    simpa using this
  · obtain ⟨h1, m, y, _, rfl⟩ := scrub_mem' h
    exact ⟨h1, O.scrub_names y d⟩

/-- The context turns at an object that is named nowhere. -/
theorem SimC.recx {c' : Cx} {d : Nat} (h : SimC M src c ow f a w) (hf : f.free d) (k : c.but c' d) (hrv : ∀ r, ∃ ad n k, c'.rv r = .slice ad n k) : SimC M src c' ow f a w := by
  have hblk : ∀ o n x, (o, n, x) ∈ f.ob → ∀ b, x.blk c' ow o b ↔ x.blk c ow o b := by
    intro o n x hm b
    have hne := (hf.2 o n x hm).1
    cases x with
    | box cs => simp [O.blk, k.loc o hne]
    | row e kk t l deep => simp [O.blk, k.rv o hne]
    | win _ _ _ => exact Iff.rfl
  have hok : okB src c' ow f.ob = okB src c ow f.ob := by
    funext b
    apply propext
    constructor
    · rintro ⟨h1, h2⟩
      exact ⟨h1, fun ⟨o, n, x, hm, hx⟩ => h2 ⟨o, n, x, hm, (hblk o n x hm b).2 hx⟩⟩
    · rintro ⟨h1, h2⟩
      exact ⟨h1, fun ⟨o, n, x, hm, hx⟩ => h2 ⟨o, n, x, hm, (hblk o n x hm b).1 hx⟩⟩
  refine ⟨h.defers, fun s n x hm => ?_, fun o n x hm => ?_, h.uniq, hrv⟩
  · obtain ⟨v, hv, h1⟩ := h.fr s n x hm
    exact ⟨v, hv, by rw [hok]; exact h1.but (hf.1 s n x hm) k⟩
  · rw [hok]
    have ho := h.ob o n x hm
    obtain ⟨hne, hn⟩ := hf.2 o n x hm
    cases x with
    | box cs =>
      obtain ⟨b1, b2, vs, ty, b3, b4⟩ := ho
      simp only [O.names, List.any_eq_false] at hn
      exact ⟨by rw [k.loc o hne]; exact b1, by rw [k.loc o hne]; exact b2, vs, ty, by rw [k.loc o hne]; exact b3, b4.mono fun u t ht hr => hr.but (by simpa using hn t ht) k⟩
    | row e kk t l deep =>
      obtain ⟨r0, r1, r2, xs, G, r3, r4, r5, r6⟩ := ho
      exact ⟨r0, r1, by rw [k.rv o hne]; exact r2, xs, G, by rw [k.rv o hne]; exact r3, r4, r5, by rw [k.rv o hne]; exact r6⟩
    | win kk t l =>
      obtain ⟨r0, r1, G, r2, r3, r4⟩ := ho
      exact ⟨r0, r1, G, by rw [k.rv o hne]; exact r2, r3, r4⟩

/-- The one step of memory: blocks that may be written may turn; each object is an old one whose blocks have not turned, or is shown anew. -/
theorem SimC.step (h : SimC M src c ow f a w) (hsf : f.subFree) {w' : World} {ow' : Nat → Option Nat} {ob' : List (Nat × Nat × O)} {n' : Nat} (hs : w.heap.size ≤ w'.heap.size)
    (hb : ∀ b, b < w.heap.size → ¬ live c ow f.ob b → w'.heap[b]? = w.heap[b]?) (hl : ∀ b, b < w.heap.size → live c ow' ob' b → live c ow f.ob b)
    (hob : ∀ o n x, (o, n, x) ∈ ob' → ((∃ m, (o, m, x) ∈ f.ob) ∧ (∀ b, b < w.heap.size → ow b = some o → x.blk c ow o b → w'.heap[b]? = w.heap[b]?) ∧ ∀ b, b < w.heap.size → ow b = some o → ow' b = some o) ∨ ObOk M c ow' w' (okB src c ow' ob') o x)
    (hu : ∀ o n x m y, (o, n, x) ∈ ob' → (o, m, y) ∈ ob' → x = y) : SimC M src c ow' ⟨n', f.fr, ob'⟩ a w' := by
  have kp : Keeps w w' (okB src c ow f.ob) (okB src c ow' ob') := ⟨hs, fun b hlt hok => hb b hlt hok.2, fun b hlt hok => ⟨hok.1, fun h' => hok.2 (hl b hlt h')⟩⟩
  refine ⟨h.defers, fun s n x hm => ?_, fun o n x hm => ?_, hu, h.rvs⟩
  · obtain ⟨v, hv, h1⟩ := h.fr s n x hm
    exact ⟨v, hv, h1.keep (hsf.1 s n x hm) kp⟩
  · rcases hob o n x hm with ⟨⟨m, hm'⟩, hbl, how⟩ | hnew
    · exact (h.ob o m x hm').keep (hsf.2 o m x hm') kp hbl how
    · exact hnew
/-- Two objects do not share a block. -/
theorem SimC.apart (h : SimC M src c ow f a w) {o o' n n' : Nat} {x x' : O} (hx : (o, n, x) ∈ f.ob) (hx' : (o', n', x') ∈ f.ob) {b : Nat} (hb : x.blk c ow o b) (hb' : x'.blk c ow o' b) : o = o' := by
  have h1 := (h.ob o n x hx).own hb
  have h2 := (h.ob o' n' x' hx').own hb'
  rw [h1] at h2
  injection h2
/-- The world grows, and what was there stays. -/
theorem SimC.world {w' : World} (h : SimC M src c ow f a w) (hsf : f.subFree) (hs : w.heap.size ≤ w'.heap.size) (hb : ∀ b, b < w.heap.size → w'.heap[b]? = w.heap[b]?) : SimC M src c ow f a w' :=
  h.step hsf hs (fun b hlt _ => hb b hlt) (fun _ _ h => h) (fun o n x hm => .inl ⟨⟨n, hm⟩, fun b hlt _ _ => hb b hlt, fun _ _ h => h⟩) h.uniq

/-- A new object in new blocks. -/
theorem SimC.add (h : SimC M src c ow f a w) (hsf : f.subFree) {w' : World} {ow' : Nat → Option Nat} {d m n' : Nat} {x : O} (hf : ∀ o n y, (o, n, y) ∈ f.ob → o ≠ d) (hs : w.heap.size ≤ w'.heap.size) (hb : ∀ b, b < w.heap.size → w'.heap[b]? = w.heap[b]?)
    (ho : ∀ b, b < w.heap.size → ow' b = ow b) (hm : ∀ b, x.blk c ow' d b → w.heap.size ≤ b) (hx : ObOk M c ow' w' (okB src c ow' ((d, m, x) :: f.ob)) d x) :
    SimC M src c ow' ⟨n', f.fr, (d, m, x) :: f.ob⟩ a w' := by
  refine h.step hsf hs (fun b hlt _ => hb b hlt) (fun b hlt hl => ?_) (fun o n y hy => ?_) (fun o n y n2 z hy hz => ?_)
  · obtain ⟨o, n, y, hy, hyb⟩ := hl
    rcases List.mem_cons.1 hy with he | hy
    · injection he with e1 e2
      injection e2 with e2 e3
      subst e1 e3
      have := hm b hyb
      omega
    · refine ⟨o, n, y, hy, ?_⟩
      cases y with
      | box _ => exact hyb
      | row _ _ _ _ _ => exact hyb
      | win _ _ _ => show ow b = some o; rw [← ho b hlt]; exact hyb
  · rcases List.mem_cons.1 hy with he | hy
    · injection he with e1 e2
      injection e2 with e2 e3
      subst e1 e3
      exact .inr hx
    · exact .inl ⟨⟨n, hy⟩, fun b hlt _ _ => hb b hlt, fun b hlt hw => by rw [ho b hlt]; exact hw⟩
  · rcases List.mem_cons.1 hy with he | hy1
    · injection he with e1 e2
      injection e2 with _ e2
      rcases List.mem_cons.1 hz with he' | hz1
      · injection he' with e3 e4
        injection e4 with _ e4
        rw [e2, e4]
      · exact absurd e1 (hf _ _ _ hz1)
    · rcases List.mem_cons.1 hz with he' | hz1
      · injection he' with e3 e4
        exact absurd e3 (hf _ _ _ hy1)
      · exact h.uniq o n y n2 z hy1 hz1

theorem C.names_scrub (d : Nat) (c : C) : (scrubC d c).names d = false := by
  unfold scrubC
  split
  · rfl
  · rename_i h; simpa using h
theorem C.isSub_scrub {d : Nat} {c : C} (h : c.isSub = false) : (scrubC d c).isSub = false := by
  unfold scrubC
  split
  · rfl
  · exact h
theorem subFree_scrub (h : f.subFree) (d : Nat) : (f.scrub d).subFree := by
  refine ⟨fun s n x hm => h.1 s n x (List.mem_filter.1 hm).1, fun o n x hm => ?_⟩
  obtain ⟨_, m, y, hy, rfl⟩ := scrub_mem' hm
  have := h.2 o m y hy
  cases y with
  | box cs =>
    simp only [O.isSub, O.scrub, List.any_eq_false, List.mem_map] at this ⊢
    rintro t ⟨u, hu, rfl⟩
    have := C.isSub_scrub (d := d) (by simpa using this u hu)
    simp [this]
  | row _ _ _ _ _ => rfl
  | win _ _ _ => rfl
end

/-- The streams are as they were, and so is every block but those that may be written. -/
structure BelowM (M : Nat → Prop) (w w' : World) : Prop where
  os : w'.os = w.os
  tape : w'.tape = w.tape
  output : w'.output = w.output
  size : w.heap.size ≤ w'.heap.size
  block : ∀ k, k < w.heap.size → ¬ M k → w'.heap[k]? = w.heap[k]?
theorem BelowM.refl (M : Nat → Prop) (w : World) : BelowM M w w := ⟨rfl, rfl, rfl, Nat.le_refl _, fun _ _ _ => rfl⟩
theorem BelowM.trans {M : Nat → Prop} {a b c : World} (h : BelowM M a b) (k : BelowM M b c) : BelowM M a c :=
  ⟨k.os.trans h.os, k.tape.trans h.tape, k.output.trans h.output, Nat.le_trans h.size k.size, fun i hi hm => (k.block i (Nat.lt_of_lt_of_le hi h.size) hm).trans (h.block i hi hm)⟩
theorem BelowM.of_below {M : Nat → Prop} {w w' : World} (h : Below w.heap.size w w') : BelowM M w w' := ⟨h.os, h.tape, h.output, h.size, fun k hk _ => h.block k hk⟩
theorem BelowM.drew {M : Nat → Prop} {a w : World} (h : BelowM M a w) : BelowM M a w.drew := ⟨h.os, h.tape, h.output, h.size, h.block⟩

/-- What a walk of one body keeps fixed: the program, the frame's length, the world at the call, the blocks that may be written, the blocks that data may lie in, where the objects lie that the caller has given. -/
structure Ctx where
  P : Program
  n : Nat
  w0 : World
  M : Nat → Prop
  src : Nat → Prop
  c0 : Cx
  hM : ∀ b, w0.heap.size ≤ b → M b
  hsrc : ∀ b, M b → src b
def Pins (X : Ctx) (c : Cx) : Prop := ∀ o, pinned o = true → c.loc o = X.c0.loc o ∧ c.rv o = X.c0.rv o
def At (X : Ctx) (f : F) (a : Act) (w : World) : Prop := (∃ c ow, SimC X.M X.src c ow f a w ∧ Pins X c) ∧ BelowM X.M X.w0 w ∧ a.tmps.size = X.n
/-- What was there is there. -/
def Stays (w w' : World) : Prop := ∀ b, b < w.heap.size → w'.heap[b]? = w.heap[b]?
theorem Pins.loc {X : Ctx} {c : Cx} (h : Pins X c) {d : Nat} (hd : pinned d = false) (b : Nat) : Pins X (c.setLoc d b) := fun o ho => by
  have hne : o ≠ d := by rintro rfl; rw [hd] at ho; cases ho
  simp only [Cx.setLoc, if_neg hne]
  exact h o ho
theorem Pins.rv {X : Ctx} {c : Cx} (h : Pins X c) {d : Nat} (hd : pinned d = false) (v : Value) : Pins X (c.setRv d v) := fun o ho => by
  have hne : o ≠ d := by rintro rfl; rw [hd] at ho; cases ho
  simp only [Cx.setRv, if_neg hne]
  exact h o ho
theorem size_put (a : Act) (d : Option Nat) (v : Value) : (a.put d v).tmps.size = a.tmps.size := by cases d <;> simp [Act.put]
theorem inFrame_lt {n d : Nat} (h : inFrame n (some d) = true) : d < n := by simpa [inFrame] using h
theorem At.put {X : Ctx} {f : F} {a : Act} {w : World} (h : At X f a w) {c : Cx} {ow : Nat → Option Nat} (hs : SimC X.M X.src c ow f a w) (hp : Pins X c) {d : Option Nat} {x : S} {v : Value} (hd : inFrame X.n d = true) (hx : RelS c ow w (okB X.src c ow f.ob) v x) : At X (f.put d x) (a.put d v) w := by
  obtain ⟨_, hb, hn⟩ := h
  refine ⟨⟨c, ow, ?_, hp⟩, hb, (size_put a d v).trans hn⟩
  cases d with
  | none => exact hs
  | some d => exact hs.put (by rw [hn]; exact inFrame_lt hd) hx
end Go.V
set_option linter.unusedVariables false
set_option linter.unusedSectionVars false
namespace Go.V
open Go.Ab Go.RowKit
section
variable {P : Program} {w : World} {a : Act} {o : Oper} {B : Nat}

theorem plain_wrap (k : IntKind) (n : Int) : plain (.int k (k.wrap n)) = true := by
  have h8 : (2 : Int) ^ 8 = 256 := by decide
  have h7 : (2 : Int) ^ 7 = 128 := by decide
  have h16 : (2 : Int) ^ 16 = 65536 := by decide
  have h15 : (2 : Int) ^ 15 = 32768 := by decide
  have h32 : (2 : Int) ^ 32 = 4294967296 := by decide
  have h31 : (2 : Int) ^ 31 = 2147483648 := by decide
  have h64 : (2 : Int) ^ 64 = 18446744073709551616 := by decide
  have h63 : (2 : Int) ^ 63 = 9223372036854775808 := by decide
  cases k <;> simp [plain, IntKind.wrap, IntKind.min, IntKind.max, IntKind.signed, IntKind.bits, h8, h7, h16, h15, h32, h31, h64, h63] <;> (try split) <;> omega

theorem plain_tmod {k : IntKind} {a b : Int} (h : plain (.int k a) = true) : plain (.int k (a.tmod b)) = true := by
  simp only [plain, Bool.and_eq_true, decide_eq_true_eq] at h ⊢
  have h0 : k.min ≤ 0 := by cases k <;> simp [IntKind.min, IntKind.signed, IntKind.bits]
  have h1 : 0 ≤ k.max := by cases k <;> simp [IntKind.max, IntKind.signed, IntKind.bits]
  have h2 : (a.tmod b).natAbs = a.natAbs % b.natAbs := Int.natAbs_tmod a b
  have h3 : a.natAbs % b.natAbs ≤ a.natAbs := Nat.mod_le _ _
  have h4 : 0 ≤ a → 0 ≤ a.tmod b := fun h => Int.tmod_nonneg b h
  have h5 : a ≤ 0 → a.tmod b ≤ 0 := fun h => by
    have := Int.tmod_nonneg b (show 0 ≤ -a by omega)
    rw [Int.neg_tmod] at this
    omega
  omega

theorem plain_len {n : Nat} (h : n ≤ maxLen) : plain (.int .i64 (n : Int)) = true := by
  have h63 : (2 : Int) ^ 63 = 9223372036854775808 := by decide
  simp only [maxLen] at h
  simp [plain, IntKind.min, IntKind.max, IntKind.signed, IntKind.bits, h63]
  omega

def Gives (P : Program) (a : Act) (w : World) (o : Oper) (v : Value) : Prop := ∀ w' : World, (readsM o.op = true → ∀ b, b < w.heap.size → w'.heap[b]? = w.heap[b]?) → (execOp a.eval o).run P w' = .ok (.value v) w'

theorem add_eq (b o n : Nat) : (⟨b, o, none⟩ : Addr).add n = ⟨b, o + n, none⟩ := by unfold Addr.add; split <;> simp_all

theorem run_isAgg_struct {P : Program} {t : TypeId} {fs : Array Field} (h : P.underlying t = some (.struct fs)) (w : World) : (isAgg t).run P w = .ok true w := by simp [isAgg, run_underlying h]

theorem run_isAgg_array {P : Program} {t : TypeId} {n : Nat} {e : TypeId} (h : P.underlying t = some (.array n e)) (w : World) : (isAgg t).run P w = .ok true w := by simp [isAgg, run_underlying h]

theorem run_isAgg_other {P : Program} {t : TypeId} {d : TypeDesc} (h : P.underlying t = some d) (h1 : ∀ fs, d ≠ .struct fs) (h2 : ∀ n e, d ≠ .array n e) (w : World) : (isAgg t).run P w = .ok false w := by
  simp only [isAgg, Sem.run_bind, run_underlying h, Result.andThen_ok]
  cases d with
  | struct fs => exact absurd rfl (h1 fs)
  | array n e => exact absurd rfl (h2 n e)
  | _ => rfl

theorem run_sizeOf {P : Program} {t : TypeId} {i : TypeInfo} (h : P.info? t = some i) (w : World) : (sizeOf t).run P w = .ok i.size w := by simp [sizeOf, typeInfo, h]

theorem run_loadVar_agg {P : Program} {t : TypeId} {i : TypeInfo} {w : World} {ad : Addr} {us : List Value} (ha : (isAgg t).run P w = .ok true w) (hi : P.info? t = some i) (hl : us.length = i.size)
    (hc : ∀ j v, us[j]? = some v → w.cell? (ad.add j) = some v) : (loadVar t ad).run P w = .ok (.agg us.toArray) w := by
  have h1 := run_loadCells_list (P := P) w ad us hc
  rw [hl] at h1
  simp only [loadVar, Sem.run_bind, ha, Result.andThen_ok, if_true, run_sizeOf hi, h1]
  rfl

theorem run_loadVar_one {P : Program} {t : TypeId} {w : World} {ad : Addr} {u : Value} (ha : (isAgg t).run P w = .ok false w) (hc : w.cell? ad = some u) : (loadVar t ad).run P w = .ok u w := by
  simp only [loadVar, Sem.run_bind, ha, Result.andThen_ok, Bool.false_eq_true, if_false]
  simp [load, Sem.run, hc]

theorem run_v {P : Program} {s : Sem Value} {w : World} {v : Value} (h : s.run P w = .ok v w) : (do pure (Next.value (← s)) : Sem Next).run P w = .ok (.value v) w := by
  simp [h]

theorem cells_of_block {w : World} {b : Nat} {vs : List Value} {ty : TypeId} {fz : Nat × Nat} (h : w.heap[b]? = some (.cells vs.toArray ty fz)) (j : Nat) (u : Value) (hu : vs[j]? = some u) : w.cell? ⟨b, 0 + j, none⟩ = some u := by
  simp [World.cell?, h, hu]

theorem run_loadAt {P : Program} {t : TypeId} {ad : Addr} {v : Value} {w : World} (h : (loadVar t ad).run P w = .ok v w) : (Instr.loadAt t (.pointer (some ad))).run P w = .ok v w := by
  simp [Instr.loadAt, Instr.sureAddr, h]

theorem run_eqGuard_plain {op : BinOp} {t : TypeId} {x y : Operand} {u v : Value} (hu : plain u = true) (w : World) : (eqGuard op t x y u v).run P w = .ok () w := by
  cases op <;> cases u <;> first | (simp [plain] at hu; done) | (simp [eqGuard]; done)

theorem run_fieldAt {t : TypeId} {fs : Array Field} {f : Nat} {fd : Field} {i : TypeInfo} (ht : P.underlying t = some (.struct fs)) (hf : fs[f]? = some fd) (hi : P.info? fd.type = some i) (h0 : ¬ i.size = 0) (b off : Nat) (w : World) :
    (Instr.fieldAt t (.pointer (some ⟨b, off, none⟩)) f).run P w = .ok (.pointer (some ⟨b, off + fd.offset, none⟩)) w := by
  simp [Instr.fieldAt, run_underlying ht, hf, Instr.sureAddr, fieldPlace, run_sizeOf hi, h0, add_eq]

theorem run_indexAt_slice {t e : TypeId} {i : TypeInfo} {kd : IntKind} {n : Int} {b off len cap : Nat} (ht : P.underlying t = some (.slice e)) (hi : P.info? e = some i) (h0 : 0 ≤ n) (h1 : n < len) (w : World) :
    (Instr.indexAt t (.slice (some ⟨b, off, none⟩) len cap) (.int kd n)).run P w = .ok (.pointer (some ⟨b, off + n.toNat * i.size, none⟩)) w := by
  simp [Instr.indexAt, asIntOf, run_underlying ht, run_sizeOf hi, h0, h1, add_eq]

theorem _root_.Go.Ab.Rep.elem {v : Value} {es : List (List T)} {F : List Nat} (h : Rep w v (.sl es) F) {i : Nat} {el : List T} (hi : es[i]? = some el) :
    ∃ b off n cap xs G, v = .slice (some ⟨b, off, none⟩) n cap ∧ i < n ∧ b < w.heap.size ∧ b ∈ F ∧ RepL w xs el G ∧ (∀ j u, xs[j]? = some u → w.cell? ⟨b, off + i * el.length + j, none⟩ = some u) ∧ ∀ x ∈ G, x ∈ F := by
  cases h with
  | nil hc => simp at hi
  | @cons b off n cap k es xs F hn h0 hk0 hk hc hm hx hcell hr =>
    have hin : i < es.length := (List.getElem?_eq_some_iff.1 hi).1
    have hel : el.length = k := hk el (List.mem_of_getElem? hi)
    rw [hel]
    obtain ⟨G, H, g1, g2, g3⟩ := hr.take (i * k)
    obtain ⟨G', H', g4, g5, g6⟩ := g2.take k
    rw [flatten_get hk hi] at g4
    have hlt : b < w.heap.size := by
      have hp : 0 < xs.length := by rw [hx]; exact Nat.mul_pos h0 hk0
      exact cell?_lt (hcell 0 xs[0] (List.getElem?_eq_getElem hp))
    refine ⟨b, off, n, cap, _, G', rfl, by omega, hlt, List.mem_cons_self .., g4, fun j u hu => ?_, fun x hx' => List.mem_cons_of_mem _ (by rw [g3, g6]; simp [hx'])⟩
    have hj : xs[i * k + j]? = some u := by
      rw [List.getElem?_take] at hu
      split at hu
      · rw [List.getElem?_drop] at hu; exact hu
      · cases hu
    have := hcell (i * k + j) u hj
    rw [Nat.add_assoc]
    exact this

theorem _root_.Go.Ab.Rep.len {v : Value} {es : List (List T)} {F : List Nat} (h : Rep w v (.sl es) F) : ∃ ad cap, v = .slice ad es.length cap ∧ es.length ≤ maxLen := by
  cases h with
  | nil hc => exact ⟨_, _, rfl, Nat.zero_le _⟩
  | cons hn h0 hk0 hk hc hm hx hcell hr => subst hn; exact ⟨_, _, rfl, Nat.le_trans hc hm⟩

theorem ownsRow_len {e k n : Nat} {v : Value} {xs : List Value} (h : w.ownsRow B e k v n xs) : ∃ ad cap, v = .slice ad n cap ∧ n ≤ maxLen := by
  obtain ⟨_, h2⟩ := h
  rcases h2 with ⟨rfl, rfl⟩ | ⟨g, cap, cur, hv, _, _, h1, h2, _⟩
  · exact ⟨_, _, rfl, Nat.zero_le _⟩
  · exact ⟨_, _, hv, Nat.le_trans h1 h2⟩

theorem exec_len {t : TypeId} {x : Operand} {v : Value} (hop : o.op = .call { callee := .builtin .len, args := #[x], argTypes := #[t] }) (w' : World) (h : ∀ ty, (Builtin.len_ #[t] ty #[a.eval x]).run P w' = .ok v w') : (execOp a.eval o).run P w' = .ok (.value v) w' := by
  simp [execOp, hop, resolve, invoke, builtin, h]

theorem _root_.Go.Ab.RepL.parts {xs : List Value} {ts : List T} {F : List Nat} (h : RepL w xs ts F) (p q : Nat) : ∃ F1 F2 F3, RepL w (xs.take p) (ts.take p) F1 ∧ RepL w ((xs.drop p).take q) ((ts.drop p).take q) F2 ∧ RepL w (xs.drop (p + q)) (ts.drop (p + q)) F3 ∧ F = F1 ++ (F2 ++ F3) := by
  obtain ⟨F1, H, a1, a2, a3⟩ := h.take p
  obtain ⟨F2, F3, b1, b2, b3⟩ := a2.take q
  exact ⟨F1, F2, F3, a1, b1, by simpa [List.drop_drop] using b2, by rw [a3, b3]⟩

theorem _root_.Go.Ab.Rep.cut {v : Value} {es : List (List T)} {F : List Nat} (h : Rep w v (.sl es) F) {k l n : Nat} (hk : ∀ z ∈ es, z.length = k) (hn : l + n ≤ es.length) :
    ∃ ad len cap, v = .slice ad len cap ∧ len = es.length ∧ len ≤ cap ∧ cap ≤ maxLen ∧ ∃ G, Rep w (.slice (if cap = l then ad else ad.map (·.add (l * k))) n (cap - l)) (.sl ((es.drop l).take n)) G ∧ ∀ b ∈ G, b ∈ F := by
  cases h with
  | @nil ad cap hc =>
    refine ⟨ad, 0, cap, rfl, rfl, Nat.zero_le _, hc, [], ?_, by simp⟩
    have : n = 0 := by simp at hn; omega
    subst this
    simpa using Rep.nil (w := w) (a := if cap = l then ad else ad.map (·.add (l * k))) (c := cap - l) (Nat.le_trans (Nat.sub_le _ _) hc)
  | @cons b off len cap k' es xs F hl h0 hk0 hk' hc hm hx hcell hr =>
    refine ⟨some ⟨b, off, none⟩, len, cap, rfl, hl.symm, hc, hm, ?_⟩
    have hkk : k' = k := by
      obtain ⟨x, hx'⟩ := List.exists_mem_of_length_pos (l := es) (by omega)
      rw [← hk' x hx', hk x hx']
    subst hkk
    rcases Nat.eq_zero_or_pos n with h0' | h0'
    · subst h0'
      refine ⟨[], ?_, by simp⟩
      simpa using Rep.nil (w := w) (a := if cap = l then some ⟨b, off, none⟩ else (some (⟨b, off, none⟩ : Addr)).map (·.add (l * k'))) (c := cap - l) (Nat.le_trans (Nat.sub_le _ _) hm)
    · obtain ⟨F1, F2, F3, a1, a2, a3, a4⟩ := hr.parts (l * k') (n * k')
      have hfl : ((es.flatten.drop (l * k')).take (n * k')) = ((es.drop l).take n).flatten := by
        have hd : ∀ (es : List (List T)) (l : Nat), (∀ z ∈ es, z.length = k') → es.flatten.drop (l * k') = (es.drop l).flatten := by
          intro es
          induction es with
          | nil => intro l _; simp
          | cons e es ih =>
            intro l hk
            cases l with
            | zero => simp
            | succ l =>
              have he : e.length = k' := hk e (List.mem_cons_self ..)
              rw [List.flatten_cons, List.drop_succ_cons, ← ih l (fun z hz => hk z (List.mem_cons_of_mem _ hz))]
              have : (l + 1) * k' = e.length + l * k' := by rw [Nat.succ_mul, he]; omega
              rw [this, List.drop_length_add_append]
        have ht : ∀ (es : List (List T)) (n : Nat), (∀ z ∈ es, z.length = k') → es.flatten.take (n * k') = (es.take n).flatten := by
          intro es
          induction es with
          | nil => intro n _; simp
          | cons e es ih =>
            intro n hk
            cases n with
            | zero => simp
            | succ n =>
              have he : e.length = k' := hk e (List.mem_cons_self ..)
              rw [List.flatten_cons, List.take_succ_cons, List.flatten_cons, ← ih n (fun z hz => hk z (List.mem_cons_of_mem _ hz))]
              have : (n + 1) * k' = e.length + n * k' := by rw [Nat.succ_mul, he]; omega
              rw [this, List.take_length_add_append]
        rw [hd es l hk', ht _ n (fun z hz => hk' z (List.mem_of_mem_drop hz))]
      rw [hfl] at a2
      have hcap : ¬ cap = l := by omega
      rw [if_neg hcap]
      refine ⟨b :: F2, ?_, fun x hx' => ?_⟩
      · simp only [Option.map_some, add_eq]
        refine .cons (by simp; omega) h0' hk0 (fun z hz => hk' z (List.mem_of_mem_drop (List.mem_of_mem_take hz))) (by omega) (Nat.le_trans (Nat.sub_le _ _) hm) ?_ (fun j u hu => ?_) a2
        · rw [a2.length, flatten_length (k := k') (fun z hz => hk' z (List.mem_of_mem_drop (List.mem_of_mem_take hz)))]
          congr 1
          simp
          omega
        · have hj : xs[l * k' + j]? = some u := by
            rw [List.getElem?_take] at hu
            split at hu
            · rw [List.getElem?_drop] at hu; exact hu
            · cases hu
          have := hcell _ u hj
          rw [Nat.add_assoc]
          exact this
      · rcases List.mem_cons.1 hx' with rfl | hx'
        · exact List.mem_cons_self ..
        · rw [a4]; exact List.mem_cons_of_mem _ (List.mem_append_right _ (List.mem_append_left _ hx'))

theorem foldl_set (off : Nat) : ∀ (l : List Value) (m : Nat) (cells : Array Value), off + m + l.length ≤ cells.size →
    (l.zipIdx m).foldl (fun cs (x : Value × Nat) => cs.setIfInBounds (off + x.2) x.1) cells = (cells.toList.take (off + m) ++ l ++ cells.toList.drop (off + m + l.length)).toArray
  | [], m, cells, _ => by simp
  | v :: l, m, cells, h => by
    have hl : off + m < cells.size := by simp at h; omega
    rw [List.zipIdx_cons, List.foldl_cons, foldl_set off l (m + 1) _ (by simp at h ⊢; omega)]
    congr 1
    have h1 : (cells.setIfInBounds (off + m) v).toList = cells.toList.set (off + m) v := by simp
    rw [h1]
    have h2 : (cells.toList.set (off + m) v).take (off + (m + 1)) = cells.toList.take (off + m) ++ [v] := by
      rw [← Nat.add_assoc, List.take_succ_eq_append_getElem (by simpa using hl), List.take_set_of_le (Nat.le_refl _)]
      simp
    have h3 : (cells.toList.set (off + m) v).drop (off + (m + 1) + l.length) = cells.toList.drop (off + m + (v :: l).length) := by
      rw [List.drop_set_of_lt (by omega)]
      congr 1
      simp
      omega
    rw [h2, h3]
    simp

theorem places_run : ∀ {fs : List Field} {ps : List (Nat × Nat)}, placesOf P fs = some ps → ∀ w' : World, (fs.mapM fun f => (do pure (f.offset, ← sizeOf f.type) : Sem (Nat × Nat))).run P w' = .ok ps w' := by
  intro fs
  induction fs with
  | nil => intro ps h w'; injection h with h; subst h; rfl
  | cons f fs ih =>
    intro ps h w'
    unfold placesOf at h
    split at h
    · rename_i i ps' h1 h2
      injection h with h
      subst h
      have hh := ih h2 w'
      simp only [List.mapM_cons, Sem.run_bind, run_sizeOf h1, Result.andThen_ok, Sem.run_pure]
      rw [hh]
      rfl
    · cases h

theorem fill_one {place : Nat → Option (Nat × Nat)} {cells : List Value} {i off size : Nat} {v : Value} {rest : List (Nat × Value)} (hp : place i = some (off, size)) (hs : v.cells.size = size) (hl : off + size ≤ cells.length) :
    Instr.fill place cells.toArray ((i, v) :: rest) = Instr.fill place (sp cells off v.cells.toList).toArray rest := by
  rw [Instr.fill]
  simp only [hp, hs, ne_eq, not_true_eq_false, decide_false, Bool.false_or, gt_iff_lt, decide_eq_true_eq]
  rw [if_neg (by simpa using hl)]
  congr 1
  have := foldl_set off v.cells.toList 0 cells.toArray (by simp [hs]; omega)
  rw [← Array.foldl_toList, Array.toList_zipIdx]
  unfold sp
  have h2 : v.cells.toList.length = size := by simpa using hs
  simpa [h2, hs] using this

theorem plain_byte (b : UInt8) : plain (.int .u8 (b.toNat : Int)) = true := by
  have := b.toNat_lt
  simp [plain, IntKind.min, IntKind.max, IntKind.signed, IntKind.bits]
  omega

theorem foldl_push (l : List UInt8) : ∀ s : ByteArray, (l.map fun b => (b.toNat : Int)).foldl (fun (r : ByteArray) (n : Int) => r.push (UInt8.ofNat n.toNat)) s = ⟨s.data ++ l.toArray⟩ := by
  induction l with
  | nil => intro s; simp
  | cons b l ih =>
    intro s
    rw [List.map_cons, List.foldl_cons, ih]
    simp [ByteArray.push]

def bytesT (l : List UInt8) : List (List T) := l.map fun b => [.lit (.int .u8 (b.toNat : Int))]

theorem repL_bytes {l : List UInt8} : ∀ {xs : List Value} {F : List Nat}, RepL w xs (bytesT l).flatten F → xs = l.map fun b => Value.int .u8 (b.toNat : Int) := by
  induction l with
  | nil =>
    intro xs F h
    have : xs.length = 0 := by simpa [bytesT] using h.length
    exact List.length_eq_zero_iff.1 this
  | cons b l ih =>
    intro xs F h
    have he : (bytesT (b :: l)).flatten = .lit (.int .u8 (b.toNat : Int)) :: (bytesT l).flatten := rfl
    rw [he] at h
    cases h with
    | cons h1 h2 =>
      cases h1
      rw [ih h2]
      rfl

end
end Go.V
set_option linter.unusedVariables false
set_option linter.unusedSectionVars false
namespace Go.V
open Go.Ab Go.RowKit

section
variable {M src : Nat → Prop} {c : Cx} {ow : Nat → Option Nat} {f : F} {a : Act} {w : World} {P : Program} {o : Oper} {ok : Nat → Prop} {R : Type}

/-! ### leaves -/
theorem RelC_int {k : IntKind} {x : Int} {v : Value} (h : RelC c ow w ok v (.v (.int k) x)) : v = .int k x ∧ plain (.int k x) = true := by
  obtain ⟨G, hr, _⟩ := h
  cases hr with
  | lit hp => exact ⟨rfl, hp⟩
theorem RelC_bool {x : Bool} {v : Value} (h : RelC c ow w ok v (.v .bool x)) : v = .bool x := by
  obtain ⟨G, hr, _⟩ := h
  cases hr with
  | lit hp => rfl
theorem RelC_str {x : ByteArray} {v : Value} (h : RelC c ow w ok v (.v .str x)) : v = .string x ∧ x.size ≤ maxLen := by
  obtain ⟨G, hr, _⟩ := h
  cases hr with
  | lit hp => exact ⟨rfl, by simpa [plain] using hp⟩
theorem mkC_int {k : IntKind} {x : Int} (h : plain (.int k x) = true) : RelC c ow w ok (.int k x) (.v (.int k) x) := ⟨[], .lit h, by simp⟩
theorem mkC_wrap (k : IntKind) (x : Int) : RelC c ow w ok (.int k (k.wrap x)) (.v (.int k) (k.wrap x)) := mkC_int (plain_wrap k x)
theorem mkC_bool (x : Bool) : RelC c ow w ok (.bool x) (.v .bool x) := ⟨[], .lit rfl, by simp⟩
theorem mkC_str {x : ByteArray} (h : x.size ≤ maxLen) : RelC c ow w ok (.string x) (.v .str x) := ⟨[], .lit (by simpa [plain] using h), by simp⟩

/-- The cells of data, as leaves of a frame. -/
theorem rel_split : ∀ (t : Ty) (x : den t) {xs : List Value} {G : List Nat}, RepL w xs (cells t x) G → (∀ b ∈ G, ok b) → All2 (RelC c ow w ok) xs (split t x)
  | .int k, x, xs, G, h, hG => by
    simp only [cells] at h
    cases h with
    | cons h hs => cases hs; exact .cons ⟨_, h, fun b hb => hG b (by simpa using hb)⟩ .nil
  | .bool, x, xs, G, h, hG => by
    simp only [cells] at h
    cases h with
    | cons h hs => cases hs; exact .cons ⟨_, h, fun b hb => hG b (by simpa using hb)⟩ .nil
  | .str, x, xs, G, h, hG => by
    simp only [cells] at h
    cases h with
    | cons h hs => cases hs; exact .cons ⟨_, h, fun b hb => hG b (by simpa using hb)⟩ .nil
  | .sl t, x, xs, G, h, hG => by
    simp only [cells] at h
    cases h with
    | cons h hs => cases hs; exact .cons ⟨_, h, fun b hb => hG b (by simpa using hb)⟩ .nil
  | .pair a b, x, xs, G, h, hG => by
    simp only [cells] at h
    obtain ⟨G1, G2, h1, h2, rfl⟩ := h.take (cells a x.1).length
    rw [List.take_left] at h1
    rw [List.drop_left] at h2
    have := (rel_split a x.1 h1 fun b hb => hG b (List.mem_append_left _ hb)).append (rel_split b x.2 h2 fun b hb => hG b (List.mem_append_right _ hb))
    rwa [List.take_append_drop] at this
theorem subs_append (r k i : Nat) : ∀ (xs ys : List C) (off : Nat), subs r k i off (xs ++ ys) = subs r k i off xs ++ subs r k i (off + xs.length) ys
  | [], ys, off => by simp [subs]
  | x :: xs, ys, off => by
    have := subs_append r k i xs ys (off + 1)
    cases x with
    | v t y =>
      cases t with
      | sl t => simp only [List.cons_append, subs, this, List.length_cons]; congr 2; congr 1; omega
      | _ => simp only [List.cons_append, subs, this, List.length_cons]; congr 2; congr 1; omega
    | _ => simp only [List.cons_append, subs, this, List.length_cons]; congr 2; congr 1; omega
/-- The cells of a window's element, as leaves of a frame. -/
theorem rel_subs {r k i g b0 n cap : Nat} (hrv : c.rv r = .slice (some ⟨g, b0, none⟩) n cap) : ∀ (t : Ty) (x : den t) {xs : List Value} {G : List Nat} (off : Nat), RepL w xs (cells t x) G → (∀ b ∈ G, ow b = some r) →
    (∀ j u, xs[j]? = some u → w.cell? ⟨g, b0 + (i * k + (off + j)), none⟩ = some u) → All2 (RelC c ow w ok) xs (subs r k i off (split t x))
  | .int k, x, xs, G, off, h, hG, hc => by
    simp only [cells] at h
    cases h with
    | cons h hs => cases hs; cases h with | lit hp => exact .cons (mkC_int hp) .nil
  | .bool, x, xs, G, off, h, hG, hc => by
    simp only [cells] at h
    cases h with
    | cons h hs => cases hs; cases h with | lit hp => exact .cons (mkC_bool _) .nil
  | .str, x, xs, G, off, h, hG, hc => by
    simp only [cells] at h
    cases h with
    | cons h hs => cases hs; cases h with | lit hp => exact .cons (mkC_str (by simpa [plain] using hp)) .nil
  | .sl t, x, xs, G, off, h, hG, hc => by
    simp only [cells] at h
    cases h with
    | cons h hs =>
      cases hs
      exact .cons ⟨g, b0, n, cap, hrv, ⟨_, by simpa using hc 0 _ rfl, .inl rfl, fun _ => rfl⟩, _, h, fun b hb => hG b (by simpa using hb)⟩ .nil
  | .pair a b, x, xs, G, off, h, hG, hc => by
    simp only [cells] at h
    obtain ⟨G1, G2, h1, h2, rfl⟩ := h.take (cells a x.1).length
    rw [List.take_left] at h1
    rw [List.drop_left] at h2
    have e1 := rel_subs hrv a x.1 off h1 (fun b hb => hG b (List.mem_append_left _ hb)) (fun j u hu => hc j u (by
      rw [List.getElem?_take] at hu
      split at hu
      · exact hu
      · cases hu))
    have e2 := rel_subs hrv b x.2 (off + (cells a x.1).length) h2 (fun b hb => hG b (List.mem_append_right _ hb)) (fun j u hu => by
      rw [List.getElem?_drop] at hu
      have := hc _ u hu
      rw [Nat.add_assoc off]
      exact this)
    have := e1.append e2
    rw [List.take_append_drop] at this
    rw [split, subs_append, split_len, ← cells_len a x.1]
    exact this

/-! ### operands -/
theorem RelS_const {v : Value} {x : S} (h : constS v = some x) : RelS c ow w ok v x := by
  unfold constS at h
  split at h
  · split at h
    · rename_i hp; injection h with h; subst h; exact mkC_int (c := c) (ow := ow) hp
    · cases h
  · injection h with h; subst h; exact mkC_bool (c := c) (ow := ow) _
  · split at h
    · rename_i hp; injection h with h; subst h; exact mkC_str (c := c) (ow := ow) (by simpa [plain] using hp)
    · cases h
  · injection h with h; subst h; rfl
  · injection h with h; subst h; trivial
  · cases h
theorem look_mem {s : Nat} {x : S} (h : f.look s = some x) : ∃ n, (s, n, x) ∈ f.fr := by
  unfold F.look at h
  obtain ⟨⟨s', n, e⟩, he, rfl⟩ := Option.map_eq_some_iff.1 h
  have h1 := List.mem_of_find?_eq_some he
  have h2 := List.find?_some he
  simp at h2
  subst h2
  exact ⟨n, h1⟩
theorem obj_mem {o : Nat} {x : O} (h : f.obj o = some x) : ∃ n, (o, n, x) ∈ f.ob := by
  unfold F.obj at h
  obtain ⟨⟨s', n, e⟩, he, rfl⟩ := Option.map_eq_some_iff.1 h
  have h1 := List.mem_of_find?_eq_some he
  have h2 := List.find?_some he
  simp at h2
  subst h2
  exact ⟨n, h1⟩
theorem SimC.look (h : SimC M src c ow f a w) {s : Nat} {x : S} (hl : f.look s = some x) : ∃ v, a.tmps[s]? = some v ∧ RelS c ow w (okB src c ow f.ob) v x := by
  obtain ⟨n, hm⟩ := look_mem hl
  exact h.fr s n x hm
theorem SimC.obj (h : SimC M src c ow f a w) {o : Nat} {x : O} (hl : f.obj o = some x) : ObOk M c ow w (okB src c ow f.ob) o x := by
  obtain ⟨n, hm⟩ := obj_mem hl
  exact h.ob o n x hm
theorem SimC.get (h : SimC M src c ow f a w) {x : Operand} {s : S} (hg : f.get x = some s) : RelS c ow w (okB src c ow f.ob) (a.eval x) s := by
  cases x with
  | tmp t =>
    obtain ⟨v, hv, h1⟩ := h.look hg
    have he : a.eval (.tmp t) = v := by simp [Act.eval, Array.getD_eq_getD_getElem?, hv]
    rw [he]
    exact h1
  | const v => exact RelS_const hg
  | global g => cases hg
  | func f => cases hg
theorem SimC.getC (h : SimC M src c ow f a w) {x : Operand} {y : C} (hg : f.getC x = some y) : RelC c ow w (okB src c ow f.ob) (a.eval x) y := by
  unfold F.getC at hg
  split at hg
  · rename_i z hz
    injection hg with hg
    subst hg
    exact h.get hz
  · cases hg
theorem kOpt_some {α : Type} {x : Option α} {K : α → Option R} {r : R} (h : kOpt x K = some r) : ∃ y, x = some y ∧ K y = some r := by
  cases x with
  | none => cases h
  | some y => exact ⟨y, rfl, h⟩
theorem cond_some {b : Bool} {x y : Option R} {r : R} (h : cond b x y = some r) : (b = true ∧ x = some r) ∨ (b = false ∧ y = some r) := by
  cases b with
  | true => exact .inl ⟨rfl, h⟩
  | false => exact .inr ⟨rfl, h⟩
theorem bind_some {α : Type} {x : Option α} {K : α → Option R} {r : R} (h : Option.bind x K = some r) : ∃ y, x = some y ∧ K y = some r := by
  cases x with
  | none => cases h
  | some y => exact ⟨y, rfl, h⟩
theorem idx_some {α : Type} {l : List α} {i : Int} {x : α} (h : idx l i = some x) : 0 ≤ i ∧ l[i.toNat]? = some x := by
  unfold idx at h
  rcases cond_some h with ⟨h1, h2⟩ | ⟨_, h2⟩
  · exact ⟨by simpa using h1, h2⟩
  · cases h2

/-! ### cells read -/
theorem rdC_sound {t : TypeId} {off : Nat} {cs : List C} {x : A} {xs : List Value} (h : rdC P t off cs = some x) (ha : All2 (RelC c ow w ok) xs cs) :
    ∃ v, RelA c ow w ok v x ∧ ∀ (w' : World) (b base : Nat), (∀ j u, xs[j]? = some u → w'.cell? ⟨b, base + j, none⟩ = some u) → (loadVar t ⟨b, base + off, none⟩).run P w' = .ok v w' := by
  have agg : ∀ (i : TypeInfo), P.info? t = some i → (∀ w', (isAgg t).run P w' = .ok true w') → off + i.size ≤ cs.length → x = .agg ((cs.drop off).take i.size) →
      ∃ v, RelA c ow w ok v x ∧ ∀ (w' : World) (b base : Nat), (∀ j u, xs[j]? = some u → w'.cell? ⟨b, base + j, none⟩ = some u) → (loadVar t ⟨b, base + off, none⟩).run P w' = .ok v w' := by
    intro i hi hag hle hx
    subst hx
    refine ⟨.agg ((xs.drop off).take i.size).toArray, ⟨_, rfl, (ha.drop off).take i.size⟩, fun w' b base hc => ?_⟩
    refine run_loadVar_agg (hag w') hi ?_ ?_
    · rw [List.length_take, List.length_drop, ha.length]; omega
    · intro j u hu
      rw [add_eq]
      have hj : xs[off + j]? = some u := by
        rw [List.getElem?_take] at hu
        split at hu
        · rw [List.getElem?_drop] at hu; exact hu
        · cases hu
      have := hc (off + j) u hj
      rw [Nat.add_assoc]
      exact this
  unfold rdC at h
  split at h
  · rename_i i fs hi hu
    split at h
    · rename_i hle
      injection h with h
      exact agg i hi (run_isAgg_struct hu) hle h.symm
    · cases h
  · rename_i i n e hi hu
    split at h
    · rename_i hle
      injection h with h
      exact agg i hi (run_isAgg_array hu) hle h.symm
    · cases h
  · rename_i i d hns hna hi hu
    obtain ⟨t', ht', rfl⟩ := Option.map_eq_some_iff.1 h
    obtain ⟨u, hu', hr⟩ := ha.get ht'
    exact ⟨u, hr, fun w' b base hc => run_loadVar_one (run_isAgg_other hu (fun fs e => hns fs e) (fun n e' h => hna n e' h) w') (hc off u hu')⟩
  · cases h
theorem part_sound {t : TypeId} {off : Nat} {cs : List C} {x : A} {vs : List Value} (h : rdC P t off cs = some x) (ha : All2 (RelC c ow w ok) vs cs) : ∃ v, RelA c ow w ok v x ∧ ∀ w' : World, (part t vs.toArray off).run P w' = .ok v w' := by
  have agg : ∀ (i : TypeInfo), P.info? t = some i → (∀ w', (isAgg t).run P w' = .ok true w') → off + i.size ≤ cs.length → x = .agg ((cs.drop off).take i.size) → ∃ v, RelA c ow w ok v x ∧ ∀ w' : World, (part t vs.toArray off).run P w' = .ok v w' := by
    intro i hi hag hle hx
    subst hx
    refine ⟨.agg ((vs.drop off).take i.size).toArray, ⟨_, rfl, (ha.drop off).take i.size⟩, fun w' => ?_⟩
    simp only [part, Sem.run_bind, hag w', Result.andThen_ok, if_true, run_sizeOf hi]
    have : vs.toArray.extract off (off + i.size) = ((vs.drop off).take i.size).toArray := by
      simp
    rw [this]
    rfl
  unfold rdC at h
  split at h
  · rename_i i fs hi hu
    split at h
    · rename_i hle; injection h with h; exact agg i hi (run_isAgg_struct hu) hle h.symm
    · cases h
  · rename_i i n e hi hu
    split at h
    · rename_i hle; injection h with h; exact agg i hi (run_isAgg_array hu) hle h.symm
    · cases h
  · rename_i i d hns hna hi hu
    obtain ⟨t', ht', rfl⟩ := Option.map_eq_some_iff.1 h
    obtain ⟨u, hu', hr⟩ := ha.get ht'
    refine ⟨u, hr, fun w' => ?_⟩
    simp only [part, Sem.run_bind, run_isAgg_other hu (fun fs e => hns fs e) (fun n e' h => hna n e' h) w', Result.andThen_ok, Bool.false_eq_true, if_false]
    simp [hu']
  · cases h

/-- The operation leaves a value that s speaks of. -/
def Val (P : Program) (src : Nat → Prop) (c : Cx) (ow : Nat → Option Nat) (f : F) (a : Act) (w : World) (o : Oper) (s : S) : Prop := ∃ v, RelS c ow w (okB src c ow f.ob) v s ∧ Gives P a w o v

/-- An element of a row. -/
theorem row_elem {r e k : Nat} {t : Ty} {l : List (den t)} {deep : Bool} (h : RowOk M c ow w ok r e k t l deep) {i : Nat} {x : den t} (hi : l[i]? = some x) {g b0 n cap : Nat} (hv : c.rv r = .slice (some ⟨g, b0, none⟩) n cap) :
    b0 = 0 ∧ ∃ (xs : List Value) (G : List Nat), RepL w xs (cells t x) G ∧ (∀ b ∈ G, ok b) ∧ (∀ j u, xs[j]? = some u → w.cell? ⟨g, i * k + j, none⟩ = some u) ∧ g < w.heap.size := by
  obtain ⟨h0, h1, h2, xs, G, h3, h4, h5, _⟩ := h
  have hk : ∀ z ∈ l.map (cells t), z.length = k := fun z hz => by obtain ⟨y, _, rfl⟩ := List.mem_map.1 hz; rw [cells_len, h1]
  have hi' : (l.map (cells t))[i]? = some (cells t x) := by simp [hi]
  have hil : i < l.length := (List.getElem?_eq_some_iff.1 hi).1
  have hle : (i + 1) * k ≤ l.length * k := Nat.mul_le_mul_right _ hil
  obtain ⟨G1, H, g1, g2, g3⟩ := h4.take (i * k)
  obtain ⟨G', H', g4, g5, g6⟩ := g2.take k
  rw [flatten_get hk hi'] at g4
  have hlt := (ownsRow_lt h3 (g := g) (by simp [hv, Value.ownBlock])).1
  obtain ⟨hxl, hr⟩ := h3
  rcases hr with ⟨hn, _⟩ | ⟨g', cap', cur, hv', hB, hh, hnc, hcm, hsz, htk⟩
  · rw [hv] at hn; cases hn
  · rw [hv] at hv'
    injection hv' with e1 e2 e3
    injection e1 with e1
    injection e1 with e1 e0 _
    subst e1
    refine ⟨e0, _, G', g4, fun b hb => h5 b (by rw [g3, g6]; simp [hb]), fun j u hu => ?_, hlt⟩
    have hj : xs[i * k + j]? = some u := by
      rw [List.getElem?_take] at hu
      split at hu
      · rw [List.getElem?_drop] at hu; exact hu
      · cases hu
    have hlt : i * k + j < l.length * k := by
      have := (List.getElem?_eq_some_iff.1 hj).1
      omega
    rw [← htk, List.getElem?_take, if_pos hlt] at hj
    simp only [World.cell?, hh]
    simpa using hj
/-- An element of a window. -/
theorem win_elem {r k : Nat} {t : Ty} {l : List (den t)} (h : WinOk M c ow w r k t l) {i : Nat} {x : den t} (hi : l[i]? = some x) {g b0 n cap : Nat} (hv : c.rv r = .slice (some ⟨g, b0, none⟩) n cap) :
    ∃ (xs : List Value) (G : List Nat), RepL w xs (cells t x) G ∧ (∀ b ∈ G, ow b = some r) ∧ (∀ j u, xs[j]? = some u → w.cell? ⟨g, b0 + (i * k + j), none⟩ = some u) ∧ g < w.heap.size := by
  obtain ⟨h0, h1, G, h2, h3, h4⟩ := h
  have hi' : (l.map (cells t))[i]? = some (cells t x) := by simp [hi]
  obtain ⟨b, off, n', cap', xs, G', hve, hin, hlt, hbG, g1, g2, g3⟩ := Rep.elem (es := l.map (cells t)) h2 hi'
  rw [hv] at hve
  injection hve with e1 e2 e3
  injection e1 with e1
  injection e1 with e1 e0 _
  subst e1 e0
  refine ⟨xs, G', g1, fun b hb => (h4 b (g3 b hb)).2.1, fun j u hu => ?_, hlt⟩
  have := g2 j u hu
  rw [cells_len, h1] at this
  rw [← Nat.add_assoc]
  exact this

theorem load_sound (h : SimC M src c ow f a w) {t : TypeId} {p : Operand} {K : S → Option R} {r : R} (hop : o.op = .load t p) (hv : evLoad P f t p K = some r) : ∃ s, Val P src c ow f a w o s ∧ K s = some r := by
  unfold evLoad at hv
  split at hv
  · rename_i i off hp
    split at hv
    · rename_i cs hb
      obtain ⟨x, hx, hk⟩ := kOpt_some hv
      refine ⟨_, ?_, hk⟩
      have hpv : a.eval p = .pointer (some ⟨c.loc i, off, none⟩) := h.getC hp
      have hbx : BoxOk M c ow w (okB src c ow f.ob) i cs := h.obj hb
      have hlt := hbx.lt
      obtain ⟨_, _, vs, ty, hh, ha⟩ := hbx
      obtain ⟨v, hr, hl⟩ := rdC_sound hx ha
      refine ⟨v, hr, fun w' hw0 => ?_⟩
      have hw' := hw0 (by rw [hop]; rfl)
      have h1 := hl w' (c.loc i) 0 (cells_of_block ((hw' _ hlt).trans hh))
      rw [Nat.zero_add] at h1
      simp only [execOp, hop, hpv]
      exact run_v (run_loadAt h1)
    · cases hv
  · rename_i ty e off hp
    obtain ⟨x, hx, hk⟩ := kOpt_some hv
    refine ⟨_, ?_, hk⟩
    obtain ⟨b, base, hpv, hb, hlt, xs, G, hr, hc, hG⟩ := h.getC hp
    obtain ⟨v, hrv, hl⟩ := rdC_sound hx (rel_split (c := c) (ow := ow) ty e hr hG)
    refine ⟨v, hrv, fun w' hw0 => ?_⟩
    have hw' := hw0 (by rw [hop]; rfl)
    have h1 := hl w' b base fun j u hu => (World.cell?_of_block (hw' b hlt)).trans (hc j u hu)
    simp only [execOp, hop, hpv]
    exact run_v (run_loadAt h1)
  · rename_i rr k i off hp
    obtain ⟨g, b0, n, cap, hrv, hpv⟩ := h.getC hp
    split at hv
    · rename_i e k' ty l deep hrow
      split at hv
      · rename_i hk
        subst hk
        obtain ⟨x, hx, hk⟩ := bind_some hv
        obtain ⟨y, hy, hk⟩ := kOpt_some hk
        refine ⟨_, ?_, hk⟩
        obtain ⟨rfl, xs, G, hr, hG, hc, hlt⟩ := row_elem (h.obj hrow) hx hrv
        obtain ⟨v, hvr, hl⟩ := rdC_sound hy (rel_split (c := c) (ow := ow) ty x hr hG)
        refine ⟨v, hvr, fun w' hw0 => ?_⟩
        have hw' := hw0 (by rw [hop]; rfl)
        have h1 := hl w' g (i * k) fun j u hu => (World.cell?_of_block (hw' g hlt)).trans (hc j u hu)
        simp only [execOp, hop, hpv, Nat.zero_add]
        exact run_v (run_loadAt h1)
      · cases hv
    · rename_i k' ty l hrow
      split at hv
      · rename_i hk
        subst hk
        obtain ⟨x, hx, hk⟩ := bind_some hv
        obtain ⟨y, hy, hk⟩ := kOpt_some hk
        refine ⟨_, ?_, hk⟩
        obtain ⟨xs, G, hr, hG, hc, hlt⟩ := win_elem (h.obj hrow) hx hrv
        obtain ⟨v, hvr, hl⟩ := rdC_sound hy (rel_subs (ok := okB src c ow f.ob) hrv ty x 0 hr hG (fun j u hu => by rw [Nat.zero_add]; exact hc j u hu))
        refine ⟨v, hvr, fun w' hw0 => ?_⟩
        have hw' := hw0 (by rw [hop]; rfl)
        have h1 := hl w' g (b0 + i * k) fun j u hu => by
          rw [Nat.add_assoc]
          exact (World.cell?_of_block (hw' g hlt)).trans (hc j u hu)
        simp only [execOp, hop, hpv]
        rw [Nat.add_assoc] at h1
        exact run_v (run_loadAt h1)
      · cases hv
    · cases hv
  · cases hv

theorem move_sound (h : SimC M src c ow f a w) {x : Operand} {K : S → Option R} {r : R} (hop : o.op = .move x ∨ o.op = .assign x) (hv : kOpt (f.get x) K = some r) : ∃ s, Val P src c ow f a w o s ∧ K s = some r := by
  obtain ⟨s, hs, hk⟩ := kOpt_some hv
  refine ⟨s, ⟨a.eval x, h.get hs, fun w' _ => ?_⟩, hk⟩
  rcases hop with hop | hop <;> simp [execOp, hop]
theorem pick_sound (h : SimC M src c ow f a w) {z x y : Operand} {K : S → Option R} {r : R} (hop : o.op = .pick z x y) (hv : (match f.getC z with | some (.v .bool b) => cond b (kOpt (f.get x) K) (kOpt (f.get y) K) | _ => none) = some r) : ∃ s, Val P src c ow f a w o s ∧ K s = some r := by
  split at hv
  · rename_i b hc
    have hcv := RelC_bool (h.getC hc)
    rcases cond_some hv with ⟨rfl, hv⟩ | ⟨rfl, hv⟩
    · obtain ⟨s, hs, hk⟩ := kOpt_some hv
      exact ⟨s, ⟨a.eval x, h.get hs, fun w' _ => by simp [execOp, hop, hcv, asBool]⟩, hk⟩
    · obtain ⟨s, hs, hk⟩ := kOpt_some hv
      exact ⟨s, ⟨a.eval y, h.get hs, fun w' _ => by simp [execOp, hop, hcv, asBool]⟩, hk⟩
  · cases hv
theorem nil_sound (h : SimC M src c ow f a w) {x : Operand} {K : S → Option R} {r : R} (hop : o.op = .nilCheck x) (hv : (match f.getC x with
    | some (.ptr o off) => K (.val (.one (.ptr o off)))
    | some (.ep t e off) => K (.val (.one (.ep t e off)))
    | some (.rp r k i off) => K (.val (.one (.rp r k i off)))
    | some (.ip r k i off m j q) => K (.val (.one (.ip r k i off m j q)))
    | _ => none) = some r) : ∃ s, Val P src c ow f a w o s ∧ K s = some r := by
  split at hv <;> first | (cases hv; done) | skip
  all_goals
    rename_i hx
    have hr := h.getC hx
    refine ⟨_, ?_, hv⟩
    refine ⟨a.eval x, hr, fun w' _ => ?_⟩
  · have he : a.eval x = _ := hr
    simp [execOp, hop, he]
  · obtain ⟨b, base, he, _⟩ := hr
    simp [execOp, hop, he]
  · obtain ⟨g, b0, n, cap, _, he⟩ := hr
    simp [execOp, hop, he]
  · obtain ⟨g, b0, n, cap, g2, b2, n2, cap2, _, _, he⟩ := hr
    simp [execOp, hop, he]
end
end Go.V
set_option linter.unusedVariables false
set_option linter.unusedSectionVars false
namespace Go.V
open Go.Ab Go.RowKit

section
variable {M src : Nat → Prop} {c : Cx} {ow : Nat → Option Nat} {f : F} {a : Act} {w : World} {P : Program} {o : Oper} {ok : Nat → Prop} {R : Type}

theorem toNat_lt' {n : Int} {m : Nat} (h0 : 0 ≤ n) (h1 : n < (m : Int)) : n.toNat < m := by omega
theorem no_room {n : Int} {m : Nat} (h0 : 0 ≤ n) (h1 : n < (m : Int)) (hm : m = 0) : False := by omega
theorem plain_fdiv {k : IntKind} {x : Int} (h : plain (.int k x) = true) (n : Nat) : plain (.int k (x.fdiv (2 ^ n))) = true := by
  simp only [plain, Bool.and_eq_true, decide_eq_true_eq] at h ⊢
  have h0 : k.min ≤ 0 := by cases k <;> simp [IntKind.min, IntKind.signed, IntKind.bits]
  have h1 : 0 ≤ k.max := by cases k <;> simp [IntKind.max, IntKind.signed, IntKind.bits]
  have hp : (0 : Int) < 2 ^ n := Int.pow_pos (by decide)
  have e : x.fdiv (2 ^ n) = x / 2 ^ n := Int.fdiv_eq_ediv_of_nonneg _ (Int.le_of_lt hp)
  rw [e]
  rcases Int.lt_or_le x 0 with hx | hx
  · have h2 : x / 2 ^ n < 0 := Int.ediv_neg_of_neg_of_pos hx hp
    have h3 : x ≤ x / 2 ^ n := by
      have h4 : x / 2 ^ n * 2 ^ n ≤ x := Int.ediv_mul_le x (by omega)
      have h5 := Int.lt_ediv_add_one_mul_self x hp
      have h6 : (1 : Int) ≤ 2 ^ n := hp
      have h7 : x / 2 ^ n + 1 ≤ 0 := by omega
      have h8 : (x / 2 ^ n + 1) * 2 ^ n ≤ (x / 2 ^ n + 1) * 1 := Int.mul_le_mul_of_nonpos_left h7 h6
      omega
    omega
  · have h2 : 0 ≤ x / 2 ^ n := Int.ediv_nonneg hx (Int.le_of_lt hp)
    have h3 : x / 2 ^ n ≤ x := Int.ediv_le_self _ hx
    omega

theorem bin_sound (h : SimC M src c ow f a w) {op : BinOp} {t t' : TypeId} {x y : Operand} {K : S → Option R} {r : R} {cx cy : C} (hop : o.op = .binOp op t x y t') (hx : f.getC x = some cx) (hy : f.getC y = some cy) (hv : cBin P op t (fun c => K (.val (.one c))) cx cy = some r) : ∃ s, Val P src c ow f a w o s ∧ K s = some r := by
  have rx := h.getC hx
  have ry := h.getC hy
  suffices hs : ∃ z, (∃ v, RelC c ow w (okB src c ow f.ob) v z ∧ ∀ w', (binOp op t (a.eval x) (a.eval y)).run P w' = .ok v w' ∧ plain (a.eval x) = true) ∧ K (.val (.one z)) = some r by
    obtain ⟨z, ⟨v, hvr, hrun⟩, hk⟩ := hs
    refine ⟨_, ?_, hk⟩
    refine ⟨v, hvr, fun w' _ => ?_⟩
    simp only [execOp, hop]
    simp [run_eqGuard_plain (P := P) (hrun w').2, (hrun w').1]
  unfold cBin at hv
  split at hv
  · rename_i k m k' n
    obtain ⟨ex, px⟩ := RelC_int rx
    obtain ⟨ey, py⟩ := RelC_int ry
    rw [ex, ey]
    split at hv
    · rcases cond_some hv with ⟨_, hv⟩ | ⟨h0, hv⟩
      · cases hv
      · have h0' : ¬ n < 0 := by simpa using h0
        refine ⟨_, ⟨_, mkC_wrap (c := c) (ow := ow) _ _, fun w' => ⟨?_, px⟩⟩, hv⟩
        simp [binOp, Op.shift, h0']
    · rcases cond_some hv with ⟨_, hv⟩ | ⟨h0, hv⟩
      · cases hv
      · have h0' : ¬ n < 0 := by simpa using h0
        refine ⟨_, ⟨_, mkC_int (c := c) (ow := ow) (plain_fdiv px _), fun w' => ⟨?_, px⟩⟩, hv⟩
        simp [binOp, Op.shift, h0']
    · rename_i hs1 hs2
      split at hv
      · rename_i hk
        subst hk
        unfold intBin at hv
        split at hv <;> first | (cases hv; done) | skip
        · exact ⟨_, ⟨_, mkC_wrap (c := c) (ow := ow) _ _, fun w' => ⟨by simp [binOp, Op.intArith], px⟩⟩, hv⟩
        · exact ⟨_, ⟨_, mkC_wrap (c := c) (ow := ow) _ _, fun w' => ⟨by simp [binOp, Op.intArith], px⟩⟩, hv⟩
        · exact ⟨_, ⟨_, mkC_wrap (c := c) (ow := ow) _ _, fun w' => ⟨by simp [binOp, Op.intArith], px⟩⟩, hv⟩
        · rcases cond_some hv with ⟨_, hv⟩ | ⟨h0, hv⟩
          · cases hv
          · have h0' : ¬ n = 0 := by simpa using h0
            exact ⟨_, ⟨_, mkC_wrap (c := c) (ow := ow) _ _, fun w' => ⟨by simp [binOp, Op.intDiv, h0'], px⟩⟩, hv⟩
        · rcases cond_some hv with ⟨_, hv⟩ | ⟨h0, hv⟩
          · cases hv
          · have h0' : ¬ n = 0 := by simpa using h0
            exact ⟨_, ⟨_, mkC_int (c := c) (ow := ow) (plain_tmod px), fun w' => ⟨by simp [binOp, Op.intDiv, h0'], px⟩⟩, hv⟩
        · exact ⟨_, ⟨_, mkC_wrap (c := c) (ow := ow) _ _, fun w' => ⟨by simp [binOp, Op.intBits], px⟩⟩, hv⟩
        · exact ⟨_, ⟨_, mkC_wrap (c := c) (ow := ow) _ _, fun w' => ⟨by simp [binOp, Op.intBits], px⟩⟩, hv⟩
        · exact ⟨_, ⟨_, mkC_wrap (c := c) (ow := ow) _ _, fun w' => ⟨by simp [binOp, Op.intBits], px⟩⟩, hv⟩
        · exact ⟨_, ⟨_, mkC_wrap (c := c) (ow := ow) _ _, fun w' => ⟨by simp [binOp, Op.intBits], px⟩⟩, hv⟩
        all_goals exact ⟨_, ⟨_, mkC_bool (c := c) (ow := ow) _, fun w' => ⟨by simp [binOp, Op.intCmp], px⟩⟩, hv⟩
      · cases hv
  · rename_i sa sb
    obtain ⟨ex, px⟩ := RelC_str rx
    obtain ⟨ey, py⟩ := RelC_str ry
    have px' : plain (.string sa) = true := by simpa [plain] using px
    rw [ex, ey]
    unfold strBin at hv
    split at hv <;> first | (cases hv; done) | skip
    · rcases cond_some hv with ⟨h0, hv⟩ | ⟨_, hv⟩
      · have hsz : sa.size + sb.size ≤ maxLen := by simpa using h0
        refine ⟨_, ⟨.string (sa ++ sb), mkC_str (c := c) (ow := ow) (by simpa using hsz), fun w' => ⟨?_, px'⟩⟩, hv⟩
        have hh : ¬ ((sa.size + sb.size : Nat) : Int) > IntKind.i64.max := by
          simp only [IntKind.max, IntKind.signed, IntKind.bits]
          have h63 : (2 : Int) ^ 63 = 9223372036854775808 := by decide
          simp only [maxLen] at hsz
          simp [h63]
          omega
        simp only [binOp, Op.stringOp]
        rw [if_neg hh]
        rfl
      · cases hv
    · exact ⟨_, ⟨_, mkC_bool (c := c) (ow := ow) _, fun w' => ⟨by simp [binOp, Op.stringOp], px'⟩⟩, hv⟩
    · exact ⟨_, ⟨_, mkC_bool (c := c) (ow := ow) _, fun w' => ⟨by simp [binOp, Op.stringOp], px'⟩⟩, hv⟩
  · rename_i ba bb
    have ex := RelC_bool rx
    have ey := RelC_bool ry
    rw [ex, ey]
    unfold boolBin at hv
    split at hv
    · rename_i hu
      exact ⟨_, ⟨_, mkC_bool (c := c) (ow := ow) _, fun w' => ⟨by simp [binOp, Op.equal, Op.maxDepth, run_equalIn_bool' w' _ t ba bb hu], rfl⟩⟩, hv⟩
    · rename_i hu
      exact ⟨_, ⟨_, mkC_bool (c := c) (ow := ow) _, fun w' => ⟨by simp [binOp, Op.equal, Op.maxDepth, run_equalIn_bool' w' _ t ba bb hu], rfl⟩⟩, hv⟩
    · cases hv
  · cases hv

theorem eqC_sound {t : TypeId} {x y : C} {b : Bool} {u v : Value} (h : eqC P t x y = some b) (hx : RelC c ow w ok u x) (hy : RelC c ow w ok v y) : (∀ (d : Nat) (w' : World), (Op.equalIn (d + 1) t u v).run P w' = .ok b w') ∧ (∀ w' : World, (isAgg t).run P w' = .ok false w') := by
  unfold eqC at h
  split at h
  · split at h
    · rename_i k' hu
      split at h
      · rename_i hk
        subst hk
        injection h with h
        subst h
        obtain ⟨rfl, _⟩ := RelC_int hx
        obtain ⟨rfl, _⟩ := RelC_int hy
        exact ⟨fun d w' => run_equalIn_int w' d t _ _ _ _ hu, run_isAgg_other hu (by simp) (by simp)⟩
      · cases h
    · cases h
  · split at h
    · rename_i hu
      injection h with h
      subst h
      have e1 := RelC_bool hx
      have e2 := RelC_bool hy
      subst e1 e2
      exact ⟨fun d w' => run_equalIn_bool' w' d t _ _ hu, run_isAgg_other hu (by simp) (by simp)⟩
    · cases h
  · split at h
    · rename_i hu
      injection h with h
      subst h
      obtain ⟨rfl, _⟩ := RelC_str hx
      obtain ⟨rfl, _⟩ := RelC_str hy
      exact ⟨fun d w' => run_equalIn_string w' d t _ _ hu, run_isAgg_other hu (by simp) (by simp)⟩
    · cases h
  · cases h
theorem eqFs_sound {xs ys : List C} {us vs : List Value} (hx : All2 (RelC c ow w ok) us xs) (hy : All2 (RelC c ow w ok) vs ys) : ∀ {fs : List Field} {b : Bool}, eqFs P xs ys fs = some b → ∀ (d : Nat) (w' : World), (Op.eqFields (d + 1) us.toArray vs.toArray fs).run P w' = .ok b w' := by
  intro fs
  induction fs with
  | nil => intro b h d w'; injection h with h; subst h; simp [Op.eqFields]
  | cons f fs ih =>
    intro b h d w'
    unfold eqFs at h
    split at h
    · rename_i x y h1 h2
      split at h
      · rename_i b1 r h3 h4
        split at h
        · cases h
        · rename_i hname
          injection h with h
          subst h
          obtain ⟨u, hu, ru⟩ := hx.get h1
          obtain ⟨v, hv, rv⟩ := hy.get h2
          obtain ⟨q1, q2⟩ := eqC_sound h3 ru rv
          have hp1 : ∀ w' : World, (part f.type us.toArray f.offset).run P w' = .ok u w' := by
            intro w'
            simp only [part, Sem.run_bind, q2 w', Result.andThen_ok, Bool.false_eq_true, if_false]
            simp [hu]
          have hp2 : ∀ w' : World, (part f.type vs.toArray f.offset).run P w' = .ok v w' := by
            intro w'
            simp only [part, Sem.run_bind, q2 w', Result.andThen_ok, Bool.false_eq_true, if_false]
            simp [hv]
          unfold Op.eqFields
          rw [if_pos hname]
          simp only [Sem.run_bind, hp1, hp2, q1, Result.andThen_ok]
          cases b1 with
          | true => simp only [Bool.not_true, Bool.false_eq_true, if_false, Bool.true_and]; exact ih h4 d w'
          | false => simp
      · cases h
    · cases h
theorem eq_sound (h : SimC M src c ow f a w) {op : BinOp} {t t' : TypeId} {x y : Operand} {K : S → Option R} {r : R} (hop : o.op = .binOp op t x y t') (hv : evEq P f op t x y K = some r) : ∃ s, Val P src c ow f a w o s ∧ K s = some r := by
  unfold evEq at hv
  split at hv
  · rename_i fs xs ys ht hx hy
    have hfo : P.fieldsOf t = fs := by simp [Program.fieldsOf, ht]
    split at hv
    · rename_i hg
      obtain ⟨p1, p2⟩ := hg
      split at hv
      all_goals first | (cases hv; done) | skip
      all_goals
        rename_i b hb
        obtain ⟨us, hus, hax⟩ := h.get hx
        obtain ⟨vs, hvs, hay⟩ := h.get hy
        have hrun : ∀ w' : World, (Op.equalIn 10000 t (.agg us.toArray) (.agg vs.toArray)).run P w' = .ok b w' := by
          intro w'
          rw [run_equalIn_struct w' 9999 t _ _ (by rw [hfo]; exact ht) p1, hfo]
          exact eqFs_sound hax hay hb 9998 w'
        refine ⟨_, ?_, hv⟩
        refine ⟨_, mkC_bool (c := c) (ow := ow) _, fun w' _ => ?_⟩
        simp only [execOp, hop, hus, hvs]
      · simp [run_eqGuard_agg (P := P) w' _ t x y _ _ p2, run_eql_struct, hrun]
      · simp [run_eqGuard_agg (P := P) w' _ t x y _ _ p2, run_neq_struct, hrun]
    · cases hv
  · cases hv

theorem field_sound (h : SimC M src c ow f a w) {t : TypeId} {x : Operand} {j : Nat} {K : S → Option R} {r : R} (hop : o.op = .fieldAddr t x j) (hv : evField P f t x j K = some r) : ∃ s, Val P src c ow f a w o s ∧ K s = some r := by
  unfold evField at hv
  split at hv
  · rename_i fs ht
    split at hv
    · rename_i fd hf
      split at hv
      · rename_i i hi
        split at hv
        · cases hv
        · rename_i h0
          split at hv
          · rename_i ob off hx
            have ex : a.eval x = .pointer (some ⟨c.loc ob, off, none⟩) := h.getC hx
            refine ⟨_, ?_, hv⟩
            refine ⟨.pointer (some ⟨c.loc ob, off + fd.offset, none⟩), rfl, fun w' _ => ?_⟩
            simp only [execOp, hop, ex]
            exact run_v (run_fieldAt ht hf hi h0 _ _ w')
          · rename_i ty e off hx
            obtain ⟨b, base, ex, h1, h2, xs, G, h3, h4, h5⟩ := h.getC hx
            refine ⟨_, ?_, hv⟩
            refine ⟨.pointer (some ⟨b, base + (off + fd.offset), none⟩), ⟨b, base, rfl, h1, h2, xs, G, h3, h4, h5⟩, fun w' _ => ?_⟩
            simp only [execOp, hop, ex, ← Nat.add_assoc]
            exact run_v (run_fieldAt ht hf hi h0 _ _ w')
          · rename_i rr k j' off hx
            obtain ⟨g, b0, n, cap, h1, ex⟩ := h.getC hx
            refine ⟨_, ?_, hv⟩
            refine ⟨.pointer (some ⟨g, b0 + (j' * k + (off + fd.offset)), none⟩), ⟨g, b0, n, cap, h1, rfl⟩, fun w' _ => ?_⟩
            simp only [execOp, hop, ex, ← Nat.add_assoc]
            exact run_v (run_fieldAt ht hf hi h0 _ _ w')
          · rename_i rr k i' off m j' q hx
            obtain ⟨g, b0, n, cap, g2, b2, n2, cap2, h1, h2, ex⟩ := h.getC hx
            refine ⟨_, ?_, hv⟩
            refine ⟨.pointer (some ⟨g2, b2 + (j' * m + (q + fd.offset)), none⟩), ⟨g, b0, n, cap, g2, b2, n2, cap2, h1, h2, rfl⟩, fun w' _ => ?_⟩
            simp only [execOp, hop, ex, ← Nat.add_assoc]
            exact run_v (run_fieldAt ht hf hi h0 _ _ w')
          · cases hv
      · cases hv
    · cases hv
  · cases hv

theorem index_sound (h : SimC M src c ow f a w) {t : TypeId} {x i : Operand} {K : S → Option R} {r : R} (hop : o.op = .indexAddr t x i) (hv : evIndex P f t x i K = some r) : ∃ s, Val P src c ow f a w o s ∧ K s = some r := by
  unfold evIndex at hv
  split at hv
  · rename_i e ht
    split at hv
    · rename_i inf ty l kd n hi hx hix
      obtain ⟨y, hy, hv⟩ := bind_some hv
      split at hv
      · rename_i hk
        obtain ⟨p1, p2⟩ := idx_some hy
        obtain ⟨G, hr, hG⟩ := h.getC hx
        obtain ⟨ei, _⟩ := RelC_int (h.getC hix)
        obtain ⟨b, off, len, cap, xs, G', hve, hlt, hb, hbF, g1, g2, g3⟩ := Rep.elem (es := l.map (cells ty)) hr (i := n.toNat) (el := cells ty y) (by simp [p2])
        rw [cells_len, ← split_len ty y, hk] at g2
        refine ⟨_, ?_, hv⟩
        refine ⟨.pointer (some ⟨b, off + n.toNat * inf.size, none⟩), ⟨b, off + n.toNat * inf.size, by simp, hG b hbF, hb, xs, G', g1, g2, fun x hx => hG x (g3 x hx)⟩, fun w' _ => ?_⟩
        simp only [execOp, hop, hve, ei]
        exact run_v (run_indexAt_slice ht hi p1 (by omega) w')
      · cases hv
    · rename_i inf rr kd n hi hx hix
      have hxv : a.eval x = c.rv rr := h.getC hx
      obtain ⟨ei, _⟩ := RelC_int (h.getC hix)
      split at hv
      · rename_i e' k ty l deep hrow
        split at hv
        · rename_i hk
          subst hk
          rcases cond_some hv with ⟨p1, hv⟩ | ⟨_, hv⟩
          · rcases cond_some hv with ⟨p2, hv⟩ | ⟨_, hv⟩
            · have p1 : 0 ≤ n := by simpa using p1
              have p2 : n < (l.length : Int) := by simpa using p2
              obtain ⟨r0, r1, r2, xs, G, r3, _⟩ := h.obj hrow
              obtain ⟨hl, hr⟩ := r3
              rcases hr with ⟨_, h0⟩ | ⟨g, cap, cur, hrv, _⟩
              · exact (no_room p1 p2 h0).elim
              · refine ⟨_, ?_, hv⟩
                refine ⟨.pointer (some ⟨g, 0 + (n.toNat * inf.size + 0), none⟩), ⟨g, 0, l.length, cap, hrv, rfl⟩, fun w' _ => ?_⟩
                simp only [execOp, hop, hxv, hrv, ei]
                exact run_v (run_indexAt_slice (b := g) (off := 0) (cap := cap) (len := l.length) (kd := kd) ht hi p1 p2 w')
            · cases hv
          · cases hv
        · cases hv
      · rename_i k ty l hrow
        split at hv
        · rename_i hk
          subst hk
          rcases cond_some hv with ⟨p1, hv⟩ | ⟨_, hv⟩
          · rcases cond_some hv with ⟨p2, hv⟩ | ⟨_, hv⟩
            · have p1 : 0 ≤ n := by simpa using p1
              have p2 : n < (l.length : Int) := by simpa using p2
              obtain ⟨r0, r1, G, r3, _⟩ := h.obj hrow
              have hlt : n.toNat < l.length := toNat_lt' p1 p2
              obtain ⟨b, off, len, cap, xs, G', hve, hin, hb, hbF, g1, g2, g3⟩ := Rep.elem (es := l.map (cells ty)) r3 (i := n.toNat) (el := cells ty l[n.toNat]) (by simp [hlt])
              refine ⟨_, ?_, hv⟩
              refine ⟨.pointer (some ⟨b, off + (n.toNat * inf.size + 0), none⟩), ⟨b, off, len, cap, hve, rfl⟩, fun w' _ => ?_⟩
              simp only [execOp, hop, hxv, hve, ei]
              exact run_v (run_indexAt_slice ht hi p1 (by have h1 := hin; have h2 : ((n.toNat : Nat) : Int) = n := Int.toNat_of_nonneg p1; rw [← h2]; exact Int.ofNat_lt.2 h1) w')
            · cases hv
          · cases hv
        · cases hv
      · cases hv
    · rename_i inf rr k i' off ty l kd n hi hx hix
      obtain ⟨ei, _⟩ := RelC_int (h.getC hix)
      split at hv
      · rename_i hk
        rcases cond_some hv with ⟨p1, hv⟩ | ⟨_, hv⟩
        · rcases cond_some hv with ⟨p2, hv⟩ | ⟨_, hv⟩
          · have p1 : 0 ≤ n := by simpa using p1
            have p2 : n < (l.length : Int) := by simpa using p2
            have hlt : n.toNat < l.length := toNat_lt' p1 p2
            obtain ⟨g, b0, nn, cap0, h1, ⟨v0, h2, hpre, _⟩, G, hr, hG⟩ := h.getC hx
            obtain ⟨b, off', len, cap, xs, G', hve, hin, hb, hbF, g1, g2, g3⟩ := Rep.elem (es := l.map (cells ty)) hr (i := n.toNat) (el := cells ty l[n.toNat]) (by simp [hlt])
            obtain ⟨n0, h2'⟩ : ∃ n0, w.cell? ⟨g, b0 + (i' * k + off), none⟩ = some (.slice (some ⟨b, off', none⟩) n0 cap) := by
              rcases hpre with rfl | ⟨ad, n1, n0, cap1, e1, e2, _⟩
              · exact ⟨len, by rw [h2, hve]⟩
              · rw [hve] at e1
                injection e1 with a1 a2 a3
                exact ⟨n0, by rw [h2, e2, ← a1, ← a3]⟩
            refine ⟨_, ?_, hv⟩
            refine ⟨.pointer (some ⟨b, off' + (n.toNat * inf.size + 0), none⟩), ⟨g, b0, nn, cap0, b, off', n0, cap, h1, h2', rfl⟩, fun w' _ => ?_⟩
            simp only [execOp, hop, hve, ei]
            exact run_v (run_indexAt_slice ht hi p1 (by have h1 := hin; have h2 : ((n.toNat : Nat) : Int) = n := Int.toNat_of_nonneg p1; rw [← h2]; exact Int.ofNat_lt.2 h1) w')
          · cases hv
        · cases hv
      · cases hv
    · cases hv
  · cases hv

theorem len_sound (h : SimC M src c ow f a w) {t : TypeId} {x : Operand} {K : S → Option R} {r : R} (hop : o.op = .call { callee := .builtin .len, args := #[x], argTypes := #[t] }) (hv : evLen P f t x K = some r) : ∃ s, Val P src c ow f a w o s ∧ K s = some r := by
  unfold evLen at hv
  split at hv
  · rename_i e ty l ht hx
    obtain ⟨G, hr, hG⟩ := h.getC hx
    obtain ⟨ad, cap, hve, hm⟩ := Rep.len (es := l.map (cells ty)) hr
    rw [List.length_map] at hve hm
    refine ⟨_, ?_, hv⟩
    refine ⟨.int .i64 (l.length : Int), mkC_int (c := c) (ow := ow) (plain_len hm), fun w' _ => exec_len hop w' fun ty => ?_⟩
    rw [hve]
    simp [Builtin.len_, run_underlying ht, goInt]
  · rename_i e ht hx
    have hve : a.eval x = .slice none 0 0 := h.getC hx
    refine ⟨_, ?_, hv⟩
    refine ⟨.int .i64 0, mkC_int (c := c) (ow := ow) (by decide), fun w' _ => exec_len hop w' fun ty => ?_⟩
    rw [hve]
    simp [Builtin.len_, run_underlying ht, goInt]
  · rename_i e rr ht hx
    have hve : a.eval x = c.rv rr := h.getC hx
    split at hv
    · rename_i e' k ty l deep hrow
      obtain ⟨r0, r1, r2, xs, G, r3, _⟩ := h.obj hrow
      obtain ⟨ad, cap, hrv, hm⟩ := ownsRow_len r3
      refine ⟨_, ?_, hv⟩
      refine ⟨.int .i64 (l.length : Int), mkC_int (c := c) (ow := ow) (plain_len hm), fun w' _ => exec_len hop w' fun ty => ?_⟩
      rw [hve, hrv]
      simp [Builtin.len_, run_underlying ht, goInt]
    · rename_i k ty l hrow
      obtain ⟨r0, r1, G, r3, _⟩ := h.obj hrow
      obtain ⟨ad, cap, hrv, hm⟩ := Rep.len (es := l.map (cells ty)) r3
      rw [List.length_map] at hrv hm
      refine ⟨_, ?_, hv⟩
      refine ⟨.int .i64 (l.length : Int), mkC_int (c := c) (ow := ow) (plain_len hm), fun w' _ => exec_len hop w' fun ty => ?_⟩
      rw [hve, hrv]
      simp [Builtin.len_, run_underlying ht, goInt]
    · cases hv
  · rename_i e rr k i' off ty l ht hx
    obtain ⟨g, b0, nn, cap0, h1, h2, G, hr, hG⟩ := h.getC hx
    obtain ⟨ad, cap, hve, hm⟩ := Rep.len (es := l.map (cells ty)) hr
    rw [List.length_map] at hve hm
    refine ⟨_, ?_, hv⟩
    refine ⟨.int .i64 (l.length : Int), mkC_int (c := c) (ow := ow) (plain_len hm), fun w' _ => exec_len hop w' fun ty => ?_⟩
    rw [hve]
    simp [Builtin.len_, run_underlying ht, goInt]
  · rename_i sb ht hx
    obtain ⟨hve, hp⟩ := RelC_str (h.getC hx)
    refine ⟨_, ?_, hv⟩
    refine ⟨.int .i64 (sb.size : Int), mkC_int (c := c) (ow := ow) (plain_len hp), fun w' _ => exec_len hop w' fun ty => ?_⟩
    rw [hve]
    simp [Builtin.len_, run_underlying ht, goInt]
  · cases hv
theorem mm_sound (h : SimC M src c ow f a w) {mx : Bool} {cl : Call} {x y : Operand} {K : S → Option R} {r : R} (hop : o.op = .call cl) (hcal : cl.callee = .builtin (if mx then .max else .min)) (hargs : cl.args.toList = [x, y]) (hv : evMM f mx x y K = some r) : ∃ s, Val P src c ow f a w o s ∧ K s = some r := by
  unfold evMM at hv
  split at hv
  · rename_i k m k' n hx hy
    split at hv
    · rename_i hk
      subst hk
      obtain ⟨ex, px⟩ := RelC_int (h.getC hx)
      obtain ⟨ey, py⟩ := RelC_int (h.getC hy)
      have ha : cl.args = #[x, y] := by
        apply Array.toList_inj.1
        simpa using hargs
      refine ⟨_, ?_, hv⟩
      refine ⟨.int k (if mx then (if n > m then n else m) else (if n < m then n else m)), mkC_int (c := c) (ow := ow) ?_, fun w' _ => ?_⟩
      · cases mx <;> simp only [Bool.false_eq_true, if_false, if_true] <;> split <;> assumption
      · cases mx
        · simp [execOp, hop, resolve, hcal, ha, invoke, builtin, ex, ey, Builtin.min_, Builtin.min2]
        · simp [execOp, hop, resolve, hcal, ha, invoke, builtin, ex, ey, Builtin.max_, Builtin.max2]
    · cases hv
  · cases hv
end
end Go.V
set_option linter.unusedVariables false
set_option linter.unusedSectionVars false
namespace Go.V
open Go.Ab Go.RowKit

section
variable {M src : Nat → Prop} {c : Cx} {ow : Nat → Option Nat} {f : F} {a : Act} {w : World} {P : Program} {o : Oper} {ok : Nat → Prop} {R : Type}

theorem zC_sound (v : Value) (h1 : v.oneCell' = true) : RelC c ow w ok v (zC v) := by
  unfold zC
  split
  · split
    · exact mkC_int ‹_›
    · rfl
  · exact mkC_bool _
  · split
    · rename_i hp; exact mkC_str (by simpa [plain] using hp)
    · rfl
  · rfl
  · exact h1
theorem zCs_sound (vs : List Value) (h1 : vs.all Value.oneCell' = true) : All2 (RelC c ow w ok) vs (vs.map zC) := by
  induction vs with
  | nil => exact .nil
  | cons v vs ih =>
    simp only [List.all_cons, Bool.and_eq_true] at h1
    exact .cons (zC_sound v h1.1) (ih h1.2)
theorem solid_cells (hrv : ∀ r, ∃ ad n k, c.rv r = .slice ad n k) {x : A} {v : Value} (h : RelA c ow w ok v x) (hs : x.cells.all C.solid = true) :
    ∃ vs : List Value, v.cells = vs.toArray ∧ All2 (RelC c ow w ok) vs x.cells ∧ ∀ u ∈ vs, u.oneCell' = true := by
  cases x with
  | one t =>
    simp only [A.cells, List.all_cons, List.all_nil, Bool.and_true] at hs
    have h1 := solid_cell hrv h hs
    exact ⟨[v], h1.2, .cons h .nil, by simpa using h1.1⟩
  | agg ts =>
    obtain ⟨vs, rfl, ha⟩ := h
    refine ⟨vs, rfl, ha, ?_⟩
    have hs' : ts.all C.solid = true := hs
    clear hs
    induction ha with
    | nil => simp
    | cons hr hrs ih =>
      simp only [List.all_cons, Bool.and_eq_true] at hs'
      intro u hu
      rcases List.mem_cons.1 hu with rfl | hu
      · exact (solid_cell hrv hr hs'.1).1
      · exact ih hs'.2 u hu
theorem All2.sp {α β : Type} {R : α → β → Prop} {as as' : List α} {bs bs' : List β} (h : All2 R as bs) (h' : All2 R as' bs') (off : Nat) : All2 R (sp as off as') (sp bs off bs') := by
  unfold Go.V.sp
  rw [h'.length]
  exact ((h.take off).append h').append (h.drop _)

theorem fieldV_sound (h : SimC M src c ow f a w) {t : TypeId} {x : Operand} {j : Nat} {K : S → Option R} {r : R} (hop : o.op = .field t x j) (hv : evFieldV P f t x j K = some r) : ∃ s, Val P src c ow f a w o s ∧ K s = some r := by
  unfold evFieldV at hv
  split at hv
  · rename_i fs ht
    split at hv
    · rename_i fd ts hf hx
      obtain ⟨y, hy, hv⟩ := kOpt_some hv
      obtain ⟨vs, hve, ha⟩ := h.get hx
      obtain ⟨v, hr, hrun⟩ := part_sound hy ha
      refine ⟨_, ?_, hv⟩
      refine ⟨v, hr, fun w' _ => ?_⟩
      simp only [execOp, hop, hve]
      refine run_v ?_
      simp [Instr.field, run_underlying ht, hf, asAgg, hrun]
    · cases hv
  · cases hv
theorem places_run' : ∀ {fs : List Field} {ps : List (Nat × Nat)}, placesOf P fs = some ps → ∀ w' : World, (fs.mapM fun f => (do pure (f.offset, ← sizeOf f.type) : Sem (Nat × Nat))).run P w' = .ok ps w' := by
  intro fs ps h w'
  exact places_run h w'
theorem fillC_sound (h : SimC M src c ow f a w) {place : Nat → Option (Nat × Nat)} : ∀ {ps : List (Nat × Operand)} {cs r : List C} {vs : List Value}, fillC f place cs ps = some r → All2 (RelC c ow w (okB src c ow f.ob)) vs cs →
    ∃ us : List Value, All2 (RelC c ow w (okB src c ow f.ob)) us r ∧ Instr.fill place vs.toArray (ps.map fun p => (p.1, a.eval p.2)) = some us.toArray := by
  intro ps
  induction ps with
  | nil => intro cs r vs hf ha; injection hf with hf; subst hf; exact ⟨vs, ha, by simp [Instr.fill]⟩
  | cons p ps ih =>
    intro cs r vs hf ha
    obtain ⟨i, x⟩ := p
    unfold fillC at hf
    split at hf
    · rename_i off size y hp hx
      split at hf
      · rename_i hc
        obtain ⟨c1, c2, c3⟩ := hc
        obtain ⟨ws, hws, hall, _⟩ := solid_cells h.rvs (h.get hx) c3
        have hal := ha.sp hall off
        obtain ⟨us, hu1, hu2⟩ := ih hf hal
        refine ⟨us, hu1, ?_⟩
        rw [List.map_cons, fill_one (off := off) (size := size) hp (by rw [hws]; simp [hall.length, c1]) (by rw [ha.length]; exact c2), hws]
        exact hu2
      · cases hf
    · cases hf
theorem build_sound (h : SimC M src c ow f a w) {t : TypeId} {ps : Array (Nat × Operand)} {K : S → Option R} {r : R} (hop : o.op = .build t ps) (hv : evBuild P f t ps.toList K = some r) : ∃ s, Val P src c ow f a w o s ∧ K s = some r := by
  unfold evBuild at hv
  split at hv
  · rename_i i fs hi ht
    split at hv
    · rename_i z places hz hpl
      have hz1 : z.cells.toList.all Value.oneCell' = true := by
        cases hq : z.cells.toList.all Value.oneCell' with
        | true => rfl
        | false => rw [if_neg (by rw [hq]; decide)] at hv; cases hv
      rw [if_pos hz1] at hv
      obtain ⟨cs, hf, hv⟩ := kOpt_some hv
      obtain ⟨us, hu1, hu2⟩ := fillC_sound (a := a) h hf (zCs_sound z.cells.toList hz1)
      refine ⟨_, ?_, hv⟩
      refine ⟨.agg us.toArray, ⟨us, rfl, hu1⟩, fun w' _ => ?_⟩
      simp only [execOp, hop]
      refine run_v ?_
      have hm : (fs.mapM fun f => (do pure (f.offset, ← sizeOf f.type) : Sem (Nat × Nat))).run P w' = .ok places.toArray w' := by
        have he : fs = fs.toList.toArray := by simp
        rw [he, List.mapM_toArray]
        have := places_run' hpl w'
        simp only [Sem.run_bind, map_eq_pure_bind, this, Result.andThen_ok]
        rfl
      simp only [Instr.build, zeroValue, typeInfo, Sem.run_bind, run_program, Result.andThen_ok, hi, hz, Sem.run_pure, run_underlying ht]
      rw [hm]
      simp only [Result.andThen_ok, Array.toList_map]
      have hu2' : Instr.fill (fun x => places.toArray[x]?) z.cells (List.map (fun p => (p.1, a.eval p.2)) ps.toList) = some us.toArray := by simpa using hu2
      simp only [hu2']
      rfl
    · cases hv
  · rename_i i n e hi ht
    split at hv
    · rename_i z ie hz hie
      have hz1 : z.cells.toList.all Value.oneCell' = true := by
        cases hq : z.cells.toList.all Value.oneCell' with
        | true => rfl
        | false => rw [if_neg (by rw [hq]; decide)] at hv; cases hv
      rw [if_pos hz1] at hv
      obtain ⟨cs, hf, hv⟩ := kOpt_some hv
      obtain ⟨us, hu1, hu2⟩ := fillC_sound (a := a) h hf (zCs_sound z.cells.toList hz1)
      refine ⟨_, ?_, hv⟩
      refine ⟨.agg us.toArray, ⟨us, rfl, hu1⟩, fun w' _ => ?_⟩
      simp only [execOp, hop]
      refine run_v ?_
      simp only [Instr.build, zeroValue, typeInfo, Sem.run_bind, run_program, Result.andThen_ok, hi, hz, Sem.run_pure, run_underlying ht, run_sizeOf hie, Array.toList_map]
      have hu2' : Instr.fill (fun x => some (x * ie.size, ie.size)) z.cells (List.map (fun p => (p.1, a.eval p.2)) ps.toList) = some us.toArray := by simpa using hu2
      simp only [hu2']
      rfl
    · cases hv
  · cases hv

theorem bnd_sound (h : SimC M src c ow f a w) {dflt : Int} {x : Option Operand} {n : Int} (hb : bndC f dflt x = some n) : (x = none ∧ n = dflt) ∨ ∃ y k, x = some y ∧ a.eval y = .int k n := by
  cases x with
  | none => injection hb with hb; exact .inl ⟨rfl, hb.symm⟩
  | some y =>
    simp only [bndC] at hb
    split at hb
    · rename_i k n' hg
      injection hb with hb; subst hb
      exact .inr ⟨y, k, rfl, (RelC_int (h.getC hg)).1⟩
    · cases hb
theorem bounds_run (h : SimC M src c ow f a w) {sl : Bool} {len cap : Nat} (hlc : len ≤ cap) {lo hi : Option Operand} {l u : Int} (h1 : bndC f 0 lo = some l) (h2 : bndC f (len : Int) hi = some u) (hl : 0 ≤ l) (hlu : l ≤ u) (hu : u ≤ len) (w' : World) :
    (Instr.sliceBounds sl len cap (lo.map a.eval) (hi.map a.eval) none).run P w' = .ok (l.toNat, u.toNat, cap) w' := by
  have hhi : ∀ w' : World, (match hi.map a.eval, (none : Option Value) with
      | some v, some _ => Instr.sliceBound v cap .slice3B
      | some v, none => Instr.sliceBound v cap (if sl then .sliceAcap else .sliceAlen)
      | none, none => pure len
      | none, some _ => stuck "Slice: max without high" : Sem Nat).run P w' = .ok u.toNat w' := by
    intro w'
    rcases bnd_sound h h2 with ⟨rfl, rfl⟩ | ⟨y, k, rfl, hy⟩
    · simp
    · simp only [Option.map_some, hy, Instr.sliceBound, asIntOf, Sem.run_bind, Sem.run_pure, Result.andThen_ok]
      rw [if_pos (by omega)]
      rfl
  have hlo : ∀ w' : World, (match lo.map a.eval with
      | some v => Instr.sliceBound v u.toNat .sliceB
      | none => pure 0 : Sem Nat).run P w' = .ok l.toNat w' := by
    intro w'
    rcases bnd_sound h h1 with ⟨rfl, rfl⟩ | ⟨y, k, rfl, hy⟩
    · simp
    · simp only [Option.map_some, hy, Instr.sliceBound, asIntOf, Sem.run_bind, Sem.run_pure, Result.andThen_ok]
      rw [if_pos (by omega)]
      rfl
  unfold Instr.sliceBounds
  simp only [Sem.run_bind, Sem.run_pure, Result.andThen_ok]
  have e1 := hhi w'
  have e2 := hlo w'
  cases hi with
  | none =>
    simp only [Option.map_none, Sem.run_pure] at e1
    injection e1 with e1
    cases lo with
    | none =>
      simp only [Option.map_none, Sem.run_pure] at e2
      injection e2 with e2
      simp [e1, ← e2]
    | some y => simp only [Option.map_some] at e2; simp [e1, e2]
  | some z =>
    simp only [Option.map_some] at e1
    cases lo with
    | none =>
      simp only [Option.map_none, Sem.run_pure] at e2
      injection e2 with e2
      simp [e1, ← e2]
    | some y => simp only [Option.map_some] at e2; simp [e1, e2]
theorem tyLen_eq : ∀ t : Ty, evSlice.tyLen t = tyLen t
  | .int _ => rfl
  | .bool => rfl
  | .str => rfl
  | .sl _ => rfl
  | .pair a b => by simp [evSlice.tyLen, tyLen, tyLen_eq a, tyLen_eq b]
theorem slOk_iff {l h n : Int} (hs : slOk l h n = true) : 0 ≤ l ∧ l ≤ h ∧ h ≤ n := by simpa [slOk] using hs
theorem cut_map {α β : Type} (g : α → β) (l : List α) (a b : Int) : (cut l a b).map g = ((l.map g).drop a.toNat).take (b - a).toNat := by simp [cut, List.map_take, List.map_drop]
theorem slice_sound (h : SimC M src c ow f a w) {t : TypeId} {x : Operand} {lo hi : Option Operand} {K : S → Option R} {r : R} (hop : o.op = .slice t x lo hi none) (hv : evSlice P f t x lo hi K = some r) : ∃ s, Val P src c ow f a w o s ∧ K s = some r := by
  unfold evSlice at hv
  split at hv
  · rename_i e ty l ht hx
    split at hv
    · rename_i i lo' u hi' h1 h2
      split at hv
      · rename_i hk
        rcases cond_some hv with ⟨p, hv⟩ | ⟨_, hv⟩
        · obtain ⟨p1, p2, p3⟩ := slOk_iff p
          obtain ⟨G, hr, hG⟩ := h.getC hx
          obtain ⟨ad, len, cap, hve, hlen, hlc, hcm, G', g1, g2⟩ := Rep.cut (es := l.map (cells ty)) hr (k := i.size) (l := lo'.toNat) (n := (u - lo').toNat) (fun z hz => by obtain ⟨y, _, rfl⟩ := List.mem_map.1 hz; rw [cells_len, hk, tyLen_eq]) (by rw [List.length_map]; omega)
          rw [List.length_map] at hlen
          subst hlen
          rw [← cut_map] at g1
          refine ⟨_, ?_, hv⟩
          refine ⟨_, ⟨G', g1, fun b hb => hG b (g2 b hb)⟩, fun w' _ => ?_⟩
          have hbr := bounds_run (P := P) (sl := true) h hlc h1 h2 p1 p2 p3 w'
          simp only [execOp, hop, hve]
          refine run_v ?_
          have hsub : u.toNat - lo'.toNat = (u - lo').toNat := by omega
          simp only [Instr.sliceAt, Sem.run_bind, run_underlying ht, Result.andThen_ok, Instr.slice, Option.map_none, hbr, run_sizeOf hi', hsub]
          rfl
        · cases hv
      · cases hv
    · cases hv
  · rename_i e rr kk ii off ty l ht hx
    split at hv
    · rename_i inf u hi' h2
      split at hv
      · rename_i hk
        rcases cond_some hv with ⟨p, hv⟩ | ⟨_, hv⟩
        · obtain ⟨p1, p2, p3⟩ := slOk_iff p
          obtain ⟨g, b0, nn, cap0, q1, ⟨v0, q2, hpre, _⟩, G, hr, hG⟩ := h.getC hx
          obtain ⟨ad, len, cap, hve, hlen, hlc, hcm, G', g1, g2⟩ := Rep.cut (es := l.map (cells ty)) hr (k := inf.size) (l := 0) (n := u.toNat) (fun z hz => by obtain ⟨y, _, rfl⟩ := List.mem_map.1 hz; rw [cells_len, hk, tyLen_eq]) (by rw [List.length_map]; omega)
          rw [List.length_map] at hlen
          subst hlen
          have had : (if cap = 0 then ad else ad.map (·.add (0 * inf.size))) = ad := by
            split
            · rfl
            · rw [Nat.zero_mul]
              cases ad <;> rfl
          rw [had, Nat.sub_zero, List.drop_zero, ← List.map_take] at g1
          refine ⟨_, ?_, hv⟩
          refine ⟨.slice ad u.toNat cap, ⟨g, b0, nn, cap0, q1, ⟨v0, by rw [Nat.mul_zero, Nat.zero_add]; exact q2, .inr ?_, fun h => absurd h (Nat.lt_irrefl 0)⟩, G', g1, fun b hb => hG b (g2 b hb)⟩, fun w' _ => ?_⟩
          · rcases hpre with rfl | ⟨ad1, n1, n0, cap1, e1, e2, hle⟩
            · exact ⟨ad, u.toNat, _, cap, rfl, hve, by omega⟩
            · rw [hve] at e1
              injection e1 with a1 a2 a3
              subst a1 a3
              exact ⟨_, u.toNat, n0, _, rfl, e2, by omega⟩
          · have hbr := bounds_run (P := P) (sl := true) h hlc (lo := none) (l := 0) rfl h2 p1 p2 p3 w'
            simp only [Option.map_none] at hbr
            simp only [execOp, hop, hve]
            refine run_v ?_
            simp only [Instr.sliceAt, Sem.run_bind, run_underlying ht, Result.andThen_ok, Instr.slice, Option.map_none, hbr, run_sizeOf hi', Int.toNat_zero, Nat.sub_zero, had]
            rfl
        · cases hv
      · cases hv
    · cases hv
  · rename_i sb ht hx
    split at hv
    · rename_i l u h1 h2
      rcases cond_some hv with ⟨p, hv⟩ | ⟨_, hv⟩
      · obtain ⟨p1, p2, p3⟩ := slOk_iff p
        obtain ⟨hve, hsz⟩ := RelC_str (h.getC hx)
        refine ⟨_, ?_, hv⟩
        refine ⟨.string (sb.extract l.toNat u.toNat), mkC_str (c := c) (ow := ow) ?_, fun w' _ => ?_⟩
        · simp only [ByteArray.size_extract]
          have h1 : u.toNat ≤ sb.size := by omega
          omega
        · have hbr := bounds_run (P := P) (sl := false) h (Nat.le_refl (ByteArray.size sb)) h1 h2 p1 p2 p3 w'
          simp only [execOp, hop, hve]
          refine run_v ?_
          simp only [Instr.sliceAt, Sem.run_bind, run_underlying ht, Result.andThen_ok, Instr.slice, Option.map_none, Option.isSome_none, Bool.false_eq_true, if_false, Sem.run_pure, hbr]
      · cases hv
    · cases hv
  · cases hv

theorem castTy_some {s t : Ty} {x : den s} {y : den t} (h : castTy s t x = some y) : ∃ e : s = t, e ▸ x = y := by
  unfold castTy at h
  split at h
  · rename_i e; injection h with h; exact ⟨e, h⟩
  · cases h
theorem litOf_get {t : Ty} {d : den t} : ∀ {cs : List C} {l : List (den t)}, litOf t d cs = some l → l.length = cs.length ∧ ∀ (i : Nat) (y : den t), l[i]? = some y → cs[i]? = some (.v t y)
  | [], l, h => by injection h with h; subst h; exact ⟨rfl, fun i y hy => by simp at hy⟩
  | .v t' x :: cs, l, h => by
    unfold litOf at h
    split at h
    · rename_i y ys h1 h2
      injection h with h
      subst h
      obtain ⟨rfl, rfl⟩ := castTy_some h1
      obtain ⟨g1, g2⟩ := litOf_get h2
      refine ⟨by simp [g1], fun i z hz => ?_⟩
      cases i with
      | zero => simp at hz ⊢; exact hz
      | succ i => simpa using g2 i z (by simpa using hz)
    · cases h
  | .nil :: _, _, h => by cases h
  | .row _ :: _, _, h => by cases h
  | .ptr _ _ :: _, _, h => by cases h
  | .ep _ _ _ :: _, _, h => by cases h
  | .rp _ _ _ _ :: _, _, h => by cases h
  | .sub _ _ _ _ _ _ :: _, _, h => by cases h
  | .ip _ _ _ _ _ _ _ :: _, _, h => by cases h
  | .clo _ _ :: _, _, h => by cases h
  | .any :: _, _, h => by cases h
theorem arr_sound (h : SimC M src c ow f a w) {t e : TypeId} {len : Nat} {x i : Operand} {cs : List C} {kd : IntKind} {n : Int} {inf : TypeInfo} {d : TypeDesc} {y : C} (hop : o.op = .index t x i) (ht : P.underlying t = some (.array len e)) (hx : f.get x = some (.val (.agg cs))) (hi : f.getC i = some (.v (.int kd) n)) (hinf : P.info? e = some inf) (hd : P.underlying e = some d)
    (hns : ∀ fs, d ≠ .struct fs) (hna : ∀ n e, d ≠ .array n e) (h1 : inf.size = 1) (h0 : 0 ≤ n) (hl : n < len) (hy : cs[n.toNat]? = some y) : Val P src c ow f a w o (.val (.one y)) := by
  obtain ⟨vs, hve, ha⟩ := h.get hx
  obtain ⟨ei, _⟩ := RelC_int (h.getC hi)
  obtain ⟨v, hv', hr⟩ := ha.get hy
  have hagg := run_isAgg_other hd hns hna
  refine ⟨v, hr, fun w' _ => ?_⟩
  simp only [execOp, hop, hve, ei]
  refine run_v ?_
  simp only [Instr.index, asIntOf, Sem.run_bind, Sem.run_pure, Result.andThen_ok, run_underlying ht]
  rw [if_pos ⟨h0, hl⟩]
  simp only [Sem.run_bind, run_sizeOf hinf, Result.andThen_ok, h1, part, hagg w', Bool.false_eq_true, if_false, Nat.mul_one]
  simp [hv']
theorem bytes_get {s : ByteArray} {i : Nat} {b : UInt8} (h : s.data.toList[i]? = some b) : s[i]? = some b := by
  rw [Array.getElem?_toList] at h
  obtain ⟨h1, h2⟩ := Array.getElem?_eq_some_iff.1 h
  exact getElem?_eq_some_iff.2 ⟨h1, h2⟩
theorem idxV_sound (h : SimC M src c ow f a w) {t : TypeId} {x i : Operand} {K : S → Option R} {r : R} (hop : o.op = .index t x i) (hv : evIdxV P f t x i K = some r) : ∃ s, Val P src c ow f a w o s ∧ K s = some r := by
  unfold evIdxV at hv
  split at hv
  · rename_i sb kd n ht hx hi
    obtain ⟨b, hb, hv⟩ := bind_some hv
    obtain ⟨p1, p2⟩ := idx_some hb
    obtain ⟨ex, _⟩ := RelC_str (c := c) (ow := ow) (h.get hx)
    obtain ⟨ei, _⟩ := RelC_int (h.getC hi)
    refine ⟨_, ?_, hv⟩
    refine ⟨.int .u8 (b.toNat : Int), mkC_int (c := c) (ow := ow) (plain_byte b), fun w' _ => ?_⟩
    simp only [execOp, hop, ex, ei]
    refine run_v ?_
    have p3 := bytes_get p2
    simp [Instr.index, asIntOf, run_underlying ht, p1, p3]
  · rename_i len e cs kd n ht hx hi
    split at hv
    · rename_i inf hinf hd
      split at hv
      · rename_i hc
        obtain ⟨l, hl, hv⟩ := kOpt_some hv
        obtain ⟨y, hy, hv⟩ := bind_some hv
        obtain ⟨p1, p2⟩ := idx_some hy
        obtain ⟨g1, g2⟩ := litOf_get hl
        have hlt : n.toNat < l.length := (List.getElem?_eq_some_iff.1 p2).1
        exact ⟨_, arr_sound h hop ht hx hi hinf hd (by simp) (by simp) hc.1 p1 (by rw [← hc.2, ← g1]; have := Int.toNat_of_nonneg p1; omega) (g2 _ _ p2), hv⟩
      · cases hv
    · rename_i inf k hinf hd
      split at hv
      · rename_i hc
        obtain ⟨l, hl, hv⟩ := kOpt_some hv
        obtain ⟨y, hy, hv⟩ := bind_some hv
        obtain ⟨p1, p2⟩ := idx_some hy
        obtain ⟨g1, g2⟩ := litOf_get hl
        have hlt : n.toNat < l.length := (List.getElem?_eq_some_iff.1 p2).1
        exact ⟨_, arr_sound h hop ht hx hi hinf hd (by simp) (by simp) hc.1 p1 (by rw [← hc.2, ← g1]; have := Int.toNat_of_nonneg p1; omega) (g2 _ _ p2), hv⟩
      · cases hv
    · cases hv
  · cases hv

/-! ### a slice's bytes as a string; the data behind a cell -/
theorem own_rep {e k : Nat} {t : Ty} {v : Value} {l : List (den t)} {xs : List Value} {G : List Nat} {B : Nat} (h : w.ownsRow B e k v l.length xs) (hk0 : 0 < k) (hk : tyLen t = k) (hr : RepL w xs (l.map (cells t)).flatten G) :
    ∃ G', Rep w v (leafT (.sl t) l) G' ∧ ∀ b ∈ G', v.ownBlock = some b ∨ b ∈ G := by
  have hkk : ∀ z ∈ l.map (cells t), z.length = k := fun z hz => by obtain ⟨y, _, rfl⟩ := List.mem_map.1 hz; rw [cells_len, hk]
  obtain ⟨hl, h2⟩ := h
  rcases h2 with ⟨rfl, h0⟩ | ⟨g, cap, cur, rfl, hB, hh, h1, h2, h3, h4⟩
  · have : l = [] := List.length_eq_zero_iff.1 h0
    subst this
    exact ⟨[], .nil (Nat.zero_le _), by simp⟩
  · rcases Nat.eq_zero_or_pos l.length with h0 | h0
    · have : l = [] := List.length_eq_zero_iff.1 h0
      subst this
      exact ⟨[], .nil h2, by simp⟩
    · refine ⟨g :: G, .cons (k := k) (by simp) h0 hk0 hkk h1 h2 hl (fun j u hu => ?_) hr, fun b hb => ?_⟩
      · rw [Nat.zero_add]
        rw [← h4, List.getElem?_take] at hu
        split at hu
        · simp only [World.cell?, hh]
          simpa using hu
        · cases hu
      · rcases List.mem_cons.1 hb with rfl | hb
        · exact .inl rfl
        · exact .inr hb
/-- Data behind a cell: its blocks are the data's own, or those of one of the frame's objects. -/
theorem data_sound (h : SimC M src c ow f a w) {t : Ty} {x : C} {y : den t} {v : Value} (hd : f.data t x = some y) (hv : RelC c ow w (okB src c ow f.ob) v x) : ∃ G, Rep w v (leafT t y) G ∧ ∀ b ∈ G, src b ∨ M b ∨ ∃ r, ow b = some r := by
  unfold F.data at hd
  split at hd
  · rename_i t' z
    obtain ⟨rfl, rfl⟩ := castTy_some hd
    obtain ⟨G, hr, hG⟩ := hv
    exact ⟨G, hr, fun b hb => .inl (hG b hb).1⟩
  · split at hd
    · injection hd with hd; subst hd
      have hv : v = .slice none 0 0 := hv
      subst hv
      exact ⟨[], .nil (Nat.zero_le _), by simp⟩
    · cases hd
  · rename_i r
    have hv : v = c.rv r := hv
    subst hv
    split at hd
    · rename_i e k t' l deep hrow
      obtain ⟨rfl, rfl⟩ := castTy_some hd
      obtain ⟨r0, r1, r2, xs, G, r3, r4, r5, r6⟩ := h.obj hrow
      obtain ⟨G', g1, g2⟩ := own_rep r3 r0 r1 r4
      refine ⟨G', g1, fun b hb => ?_⟩
      rcases g2 b hb with hb | hb
      · exact .inr (.inl (r2 b hb).1)
      · exact .inl (r5 b hb).1
    · rename_i k t' l hrow
      obtain ⟨rfl, rfl⟩ := castTy_some hd
      obtain ⟨r0, r1, G, r3, r4, r5⟩ := h.obj hrow
      exact ⟨G, r3, fun b hb => .inr (.inl (r5 b hb).1)⟩
    · cases hd
  · rename_i r k i off t' l
    obtain ⟨rfl, rfl⟩ := castTy_some hd
    obtain ⟨_, _, _, _, _, _, G, hr, hG⟩ := hv
    exact ⟨G, hr, fun b hb => .inr (.inr ⟨r, hG b hb⟩)⟩
  · cases hd
theorem RepL_bytes {w : World} : ∀ {l : List Int} {xs : List Value} {G : List Nat}, RepL w xs (l.map (cells (.int .u8))).flatten G → (∀ n ∈ l, 0 ≤ n ∧ n ≤ 255)
  | [], _, _, _ => by intro n hn; cases hn
  | m :: l, xs, G, h => by
    rw [List.map_cons, List.flatten_cons] at h
    cases h with
    | cons h1 h2 =>
      intro n hn
      rcases List.mem_cons.1 hn with rfl | hn
      · cases h1 with
        | lit hp => simpa [plain, IntKind.min, IntKind.max, IntKind.signed, IntKind.bits] using hp
      · exact RepL_bytes h2 n hn
theorem bytes_eq {l : List Int} (h : ∀ n ∈ l, 0 ≤ n ∧ n ≤ 255) : l.map (cells (.int .u8)) = bytesT (toU8 l) := by
  induction l with
  | nil => rfl
  | cons n l ih =>
    have h1 := h n (List.mem_cons_self ..)
    have h2 : ((UInt8.ofNat n.toNat).toNat : Int) = n := by
      rw [UInt8.toNat_ofNat']
      have : n.toNat % 2 ^ 8 = n.toNat := Nat.mod_eq_of_lt (by omega)
      omega
    show cells (.int .u8) n :: l.map (cells (.int .u8)) = [T.lit (.int .u8 ((UInt8.ofNat n.toNat).toNat : Int))] :: bytesT (toU8 l)
    rw [h2, ih fun m hm => h m (List.mem_cons_of_mem _ hm)]
    rfl
theorem str_run {v : Value} {l : List Int} {G : List Nat} (hr : Rep w v (leafT (.sl (.int .u8)) l) G) {t d e : TypeId} (ht : P.underlying t = some (.slice e)) (he : P.underlying e = some (.int .u8)) (hd : P.underlying d = some .string) : (convert t d v).run P w = .ok (.string (strOf l)) w := by
  have hb : ∀ n ∈ l, 0 ≤ n ∧ n ≤ 255 := by
    have hr' := hr
    simp only [leafT] at hr'
    generalize hes : l.map (cells (.int .u8)) = es at hr'
    cases hr' with
    | nil _ =>
      have : l = [] := by simpa using hes
      subst this
      intro n hn; cases hn
    | cons _ _ _ _ _ _ _ _ hr => subst hes; exact RepL_bytes hr
  have hbt := bytes_eq hb
  simp only [leafT] at hr
  rw [hbt] at hr
  unfold strOf
  generalize toU8 l = l at hr
  cases hl : l with
  | nil =>
    subst hl
    have hb : bytesT [] = [] := rfl
    rw [hb] at hr
    cases hr with
    | @nil A cc hc =>
      rw [run_convert_bytes_string w t d e A 0 cc ht he hd]
      cases A with
      | none => simp [Conv.bytesToString]; rfl
      | some ad =>
        have h0 : (loadCells ad 0).run P w = .ok (([] : List Int).map (Value.int .u8)).toArray w := by simp [loadCells, loadCellsFrom]
        rw [run_bytesToString w ad 0 cc [] h0]
        rfl
    | cons hn h0 _ _ _ _ _ _ _ => simp at hn; omega
  | cons b0 l0 =>
    rw [← hl]
    generalize hbt : bytesT l = es at hr
    cases hr with
    | nil hc => rw [hl] at hbt; simp [bytesT] at hbt
    | @cons b off n cc k es' xs F' hn' h0 hk0 hk hc hm hxl hcell hrl =>
      subst hbt
      have hxs := repL_bytes hrl
      have hnl : n = l.length := by rw [← hn']; simp [bytesT]
      rw [run_convert_bytes_string w t d e _ n cc ht he hd]
      have hload : (loadCells ⟨b, off, none⟩ n).run P w = .ok ((l.map fun b => (b.toNat : Int)).map (Value.int .u8)).toArray w := by
        have := run_loadCells_list (P := P) w ⟨b, off, none⟩ xs (fun j u hu => by rw [add_eq]; exact hcell j u hu)
        rw [hxs] at this
        have hlen : (l.map fun b => Value.int .u8 (b.toNat : Int)).length = n := by simp [hnl]
        rw [hlen] at this
        rw [this, List.map_map]
        rfl
      rw [run_bytesToString w _ n cc _ hload, foldl_push]
      simp [ByteArray.empty, ByteArray.emptyWithCapacity]
      rfl
theorem conv_sound (h : SimC M src c ow f a w) {t d : TypeId} {x : Operand} {K : S → Option R} {r : R} (hop : o.op = .convert t d x) (hv : evConv P f t d x K = some r) : ∃ s, Val P src c ow f a w o s ∧ K s = some r := by
  unfold evConv at hv
  split at hv
  · rename_i k0 n ds k hx hs hd
    obtain ⟨ex, _⟩ := RelC_int (h.getC hx)
    refine ⟨_, ?_, hv⟩
    exact ⟨.int k (k.wrap n), mkC_wrap (c := c) (ow := ow) k n, fun w' _ => by simp [execOp, hop, ex, convert, run_underlying hs, run_underlying hd, Conv.intToInt]⟩
  · rename_i y e hx hs hd
    split at hv
    · rename_i l he hl
      obtain ⟨G, hr, _⟩ := data_sound h hl (h.getC hx)
      obtain ⟨ad, cap, hve, hm⟩ := Rep.len (es := l.map (cells (.int .u8))) hr
      rw [List.length_map] at hm
      refine ⟨_, ?_, hv⟩
      refine ⟨.string (strOf l), mkC_str (c := c) (ow := ow) ?_, fun w' hw' => ?_⟩
      · show (toU8 l).toArray.size ≤ maxLen
        simpa [toU8] using hm
      · simp only [execOp, hop]
        exact run_v (str_run (hr.frame fun b hb => hw' (by rw [hop]; rfl) b (hr.lt b hb)) hs he hd)
    · cases hv
  · cases hv

theorem evVal_sound (h : SimC M src c ow f a w) {K : S → Option R} {r : R} (hv : evVal P f K o.op = some r) : ∃ s, Val P src c ow f a w o s ∧ K s = some r := by
  cases hop : o.op with
  | move x => rw [hop] at hv; exact move_sound h (.inl hop) hv
  | assign x => rw [hop] at hv; exact move_sound h (.inr hop) hv
  | pick z x y => rw [hop] at hv; exact pick_sound h hop hv
  | load t p => rw [hop] at hv; exact load_sound h hop hv
  | nilCheck x => rw [hop] at hv; exact nil_sound h hop hv
  | binOp op t x y t' =>
    rw [hop] at hv
    simp only [evVal, evBin] at hv
    split at hv
    · rename_i h1 h2; exact bin_sound h hop h1 h2 hv
    · exact eq_sound h hop hv
  | unOp op t x =>
    rw [hop] at hv
    cases op with
    | not =>
      simp only [evVal] at hv
      split at hv
      · rename_i b hx
        have ex := RelC_bool (h.getC hx)
        refine ⟨_, ?_, hv⟩
        exact ⟨.bool (!b), mkC_bool (c := c) (ow := ow) _, fun w' _ => by simp [execOp, hop, ex, Op.unary]⟩
      · cases hv
    | neg =>
      simp only [evVal] at hv
      split at hv
      · rename_i k n hx
        obtain ⟨ex, _⟩ := RelC_int (h.getC hx)
        refine ⟨_, ?_, hv⟩
        exact ⟨.int k (k.wrap (0 - n)), mkC_wrap (c := c) (ow := ow) _ _, fun w' _ => by simp [execOp, hop, ex, Op.unary, Op.intArith]⟩
      · cases hv
    | _ => cases hv
  | convert t d x => rw [hop] at hv; exact conv_sound h hop hv
  | fieldAddr t x j => rw [hop] at hv; exact field_sound h hop hv
  | field t x j => rw [hop] at hv; exact fieldV_sound h hop hv
  | build t ps => rw [hop] at hv; exact build_sound h hop hv
  | slice t x lo hi mx =>
    rw [hop] at hv
    cases mx with
    | none => exact slice_sound h hop hv
    | some m => cases hv
  | index t x i => rw [hop] at hv; exact idxV_sound h hop hv
  | indexAddr t x i => rw [hop] at hv; exact index_sound h hop hv
  | extract x i =>
    rw [hop] at hv
    simp only [evVal] at hv
    split at hv
    · rename_i xs hx
      obtain ⟨y, hy, hv⟩ := kOpt_some hv
      obtain ⟨vs, hve, ha⟩ := h.get hx
      obtain ⟨v, hv', hr⟩ := ha.get hy
      refine ⟨_, ?_, hv⟩
      refine ⟨v, hr, fun w' _ => ?_⟩
      simp [execOp, hop, hve, Instr.extract, hv']
    · cases hv
  | makeFunc fn first cap =>
    rw [hop] at hv
    cases fn with
    | func g =>
      simp only [evVal] at hv
      split at hv
      · rename_i x h1 h2
        split at hv
        · rename_i o' off hx
          split at hv
          · rename_i h0
            subst h0
            have hr : a.eval x = .pointer (some ⟨c.loc o', 0, none⟩) := h.getC hx
            obtain ⟨first⟩ := first
            obtain ⟨cap⟩ := cap
            simp only at h1 h2
            subst h1 h2
            refine ⟨_, ?_, hv⟩
            exact ⟨.func (.func g) #[] #[.pointer (some ⟨c.loc o', 0, none⟩)], rfl, fun w' _ => by simp [execOp, hop, Instr.makeFunc, hr]⟩
          · cases hv
        · cases hv
      · cases hv
    | _ => cases hv
  | call cl =>
    rw [hop] at hv
    simp only [evVal] at hv
    split at hv
    · rename_i x t h1 h2 h3
      refine len_sound h ?_ hv
      rw [hop]
      congr 1
      obtain ⟨cal, ar, ty⟩ := cl
      simp only at h1 h2 h3
      obtain ⟨ar⟩ := ar
      obtain ⟨ty⟩ := ty
      simp only at h2 h3
      subst h1 h2 h3
      rfl
    · rename_i x y h1 h2; exact mm_sound (mx := true) h hop h1 h2 hv
    · rename_i x y h1 h2; exact mm_sound (mx := false) h hop h1 h2 hv
    · cases hv
  | _ => rw [hop] at hv; cases hv
end
end Go.V
set_option linter.unusedVariables false
set_option linter.unusedSectionVars false
namespace Go.V
open Go.Ab Go.RowKit

section
variable {M src : Nat → Prop} {c : Cx} {ow : Nat → Option Nat} {f g : F} {a : Act} {w : World} {ok : Nat → Prop}

/-! ### slices within windows forgotten -/
theorem noSubC_le (cs : List C) : All2 C.le (cs.map noSubC) cs := by
  induction cs with
  | nil => exact .nil
  | cons t ts ih => exact .cons (by unfold noSubC; split <;> simp [C.le]) ih
theorem O.noSub_le (x : O) : x.noSub.le x := by
  cases x with
  | box cs => exact .box (noSubC_le cs)
  | row e k t l deep => exact .row id
  | win k t l => exact .win
theorem O.noSub_self {x : O} (h : x.isSub = false) : x.noSub = x := by
  cases x with
  | box cs =>
    simp only [O.isSub, List.any_eq_false] at h
    simp only [O.noSub]
    congr 1
    induction cs with
    | nil => rfl
    | cons c cs ih =>
      rw [List.map_cons, ih fun x hx => h x (List.mem_cons_of_mem _ hx)]
      simp [noSubC, h c (List.mem_cons_self ..)]
  | row _ _ _ _ _ => rfl
  | win _ _ _ => rfl
theorem O.isSub_noSub (x : O) : x.noSub.isSub = false := by
  cases x with
  | box cs =>
    simp only [O.noSub, O.isSub, List.any_eq_false, List.mem_map]
    rintro t ⟨u, _, rfl⟩
    unfold noSubC
    split
    · simp [C.isSub]
    · assumption
  | row _ _ _ _ _ => rfl
  | win _ _ _ => rfl
theorem noSubs_mem {o n : Nat} {x : O} (h : (o, n, x) ∈ f.noSubs.ob) : ∃ m y, (o, m, y) ∈ f.ob ∧ x = y.noSub := by
  simp only [F.noSubs, List.mem_map] at h
  obtain ⟨⟨o', m, y⟩, hm, he⟩ := h
  split at he
  · injection he with e1 he; injection he with e2 e3; subst e1 e3
    exact ⟨m, y, hm, rfl⟩
  · rename_i hs
    injection he with e1 he; injection he with e2 e3; subst e1 e2 e3
    exact ⟨m, y, hm, (O.noSub_self (by simpa using hs)).symm⟩
theorem SimC.noSubs (h : SimC M src c ow f a w) : SimC M src c ow f.noSubs a w := by
  refine h.weak (fun s n x hm => ⟨n, (List.mem_filter.1 hm).1⟩) (fun o n x hm => ?_) (fun o n x m y hx hy => ?_)
  · obtain ⟨m, y, hy, rfl⟩ := noSubs_mem hm
    exact ⟨m, y, hy, O.noSub_le y⟩
  · obtain ⟨_, x', hx', rfl⟩ := noSubs_mem hx
    obtain ⟨_, y', hy', rfl⟩ := noSubs_mem hy
    rw [h.uniq _ _ _ _ _ hx' hy']
theorem subFree_noSubs (f : F) : f.noSubs.subFree := by
  refine ⟨fun s n x h => ?_, fun o n x h => ?_⟩
  · simpa using (List.mem_filter.1 h).2
  · obtain ⟨m, y, _, rfl⟩ := noSubs_mem h
    exact O.isSub_noSub y
theorem Ext.noSubs (f : F) : Ext f f.noSubs := by
  refine ⟨Nat.le_succ _, fun s n x hm _ => (List.mem_filter.1 hm).1, fun o n x hm hn => ?_⟩
  simp only [F.noSubs, List.mem_map] at hm
  obtain ⟨⟨o', m, y⟩, hm, he⟩ := hm
  split at he
  · injection he with _ he; injection he with e _; omega
  · rw [← he]; exact hm

/-! ### a row becomes data -/
theorem frzC_self {r : Nat} {t : Ty} {l : List (den t)} {x : C} (h : x.names r = false) : frzC r t l x = x := by
  cases x with
  | row r' => simp [C.names] at h; simp [frzC, h]
  | rp r' k i off => simp [C.names] at h; simp [frzC, h]
  | sub r' k i off t x => simp [C.names] at h; simp [frzC, h]
  | ip r' k i off m j p => simp [C.names] at h; simp [frzC, h]
  | _ => rfl
theorem frzCs_self {r : Nat} {t : Ty} {l : List (den t)} : ∀ {cs : List C}, cs.any (C.names r) = false → cs.map (frzC r t l) = cs
  | [], _ => rfl
  | x :: xs, h => by
    simp only [List.any_cons, Bool.or_eq_false_iff] at h
    rw [List.map_cons, frzC_self h.1, frzCs_self h.2]
theorem A.frz_self {r : Nat} {t : Ty} {l : List (den t)} {x : A} (h : x.names r = false) : x.frz r t l = x := by
  cases x with
  | one y => simp only [A.frz]; rw [frzC_self h]
  | agg cs => simp only [A.frz]; rw [frzCs_self h]
theorem S.frz_self {r : Nat} {t : Ty} {l : List (den t)} {x : S} (h : x.names r = false) : x.frz r t l = x := by
  cases x with
  | val y => simp only [S.frz]; rw [A.frz_self h]
  | tup xs =>
    simp only [S.frz, S.names] at h ⊢
    congr 1
    induction xs with
    | nil => rfl
    | cons y ys ih =>
      simp only [List.any_cons, Bool.or_eq_false_iff] at h
      rw [List.map_cons, A.frz_self h.1, ih h.2]
  | un => rfl
theorem O.frz_self {r : Nat} {t : Ty} {l : List (den t)} {x : O} (h : x.names r = false) : x.frz r t l = x := by
  cases x with
  | box cs => simp only [O.frz]; rw [frzCs_self h]
  | row _ _ _ _ _ => rfl
  | win _ _ _ => rfl
theorem sub_one {r k i off : Nat} {t : Ty} {x : List (den t)} {v : Value} (h : RelC c ow w ok v (.sub r k i off t x)) : v.oneCell' = true := by
  obtain ⟨_, _, _, _, _, _, G, hr, _⟩ := h
  generalize leafT (.sl t) x = d at hr
  cases hr with
  | lit hp => cases v <;> simp [plain] at hp <;> rfl
  | nil _ => rfl
  | cons _ _ _ _ _ _ _ _ _ => rfl
theorem frzC_sound {ok' : Nat → Prop} {r : Nat} {t : Ty} {l : List (den t)} {x : C} {v : Value} (h : RelC c ow w ok v x) (hg : ∀ b, b < w.heap.size → ok b → ok' b) (hr : ∃ G, Rep w (c.rv r) (leafT (.sl t) l) G ∧ ∀ b ∈ G, ok' b) : RelC c ow w ok' v (frzC r t l x) := by
  cases x with
  | row r' =>
    simp only [frzC]
    split
    · rename_i he; subst he; have h : v = c.rv r' := h; subst h; exact hr
    · exact h
  | rp r' k i off =>
    simp only [frzC]
    split
    · obtain ⟨_, _, _, _, _, rfl⟩ := h; rfl
    · exact h
  | sub r' k i off t x =>
    simp only [frzC]
    split
    · exact sub_one h
    · exact h
  | ip r' k i off m j p =>
    simp only [frzC]
    split
    · obtain ⟨_, _, _, _, _, _, _, _, _, _, rfl⟩ := h; rfl
    · exact h
  | v _ _ => exact RelC.good h hg
  | nil => exact h
  | clo _ _ => exact h
  | ptr _ _ => exact h
  | ep _ _ _ => exact RelC.good h hg
  | any => exact h
theorem All2.map_right {α β γ : Type} {R : α → β → Prop} {S : α → γ → Prop} {f : β → γ} {as : List α} {bs : List β} (h : All2 R as bs) (hf : ∀ a b, R a b → S a (f b)) : All2 S as (bs.map f) := by
  induction h with
  | nil => exact .nil
  | cons h hs ih => exact .cons (hf _ _ h) ih
theorem A.frz_sound {ok' : Nat → Prop} {r : Nat} {t : Ty} {l : List (den t)} {x : A} {v : Value} (h : RelA c ow w ok v x) (hg : ∀ b, b < w.heap.size → ok b → ok' b) (hr : ∃ G, Rep w (c.rv r) (leafT (.sl t) l) G ∧ ∀ b ∈ G, ok' b) : RelA c ow w ok' v (x.frz r t l) := by
  cases x with
  | one y => exact frzC_sound h hg hr
  | agg ts => obtain ⟨vs, rfl, ha⟩ := h; exact ⟨vs, rfl, ha.map_right fun u t hu => frzC_sound hu hg hr⟩
theorem S.frz_sound {ok' : Nat → Prop} {r : Nat} {t : Ty} {l : List (den t)} {x : S} {v : Value} (h : RelS c ow w ok v x) (hg : ∀ b, b < w.heap.size → ok b → ok' b) (hr : ∃ G, Rep w (c.rv r) (leafT (.sl t) l) G ∧ ∀ b ∈ G, ok' b) : RelS c ow w ok' v (x.frz r t l) := by
  cases x with
  | val y => exact A.frz_sound h hg hr
  | tup xs => obtain ⟨vs, rfl, ha⟩ := h; exact ⟨vs, rfl, ha.map_right fun u t hu => A.frz_sound hu hg hr⟩
  | un => exact h
theorem O.frz_blk (r : Nat) (t : Ty) (l : List (den t)) (o b : Nat) (y : O) : (y.frz r t l).blk c ow o b ↔ y.blk c ow o b := by cases y <;> exact Iff.rfl

/-- Row r is data in g. -/
structure Frz (f g : F) (r : Nat) (t : Ty) (l : List (den t)) : Prop where
  fr : ∀ s n x, (s, n, x) ∈ g.fr → ∃ m y, (s, m, y) ∈ f.fr ∧ x = y.frz r t l
  ob : ∀ o n x, (o, n, x) ∈ g.ob → o ≠ r ∧ ∃ m y, (o, m, y) ∈ f.ob ∧ x = y.frz r t l
theorem frzRow_frz {r e k : Nat} {t : Ty} {l : List (den t)} {deep : Bool} (hr : f.obj r = some (.row e k t l deep)) : Frz f (f.frzRow r) r t l := by
  unfold F.frzRow
  rw [hr]
  refine ⟨fun s n x hm => ?_, fun o n x hm => ?_⟩
  · simp only [List.mem_map] at hm
    obtain ⟨⟨s', m, y⟩, hm, he⟩ := hm
    split at he
    · injection he with e1 he; injection he with e2 e3; subst e1 e3; exact ⟨m, y, hm, rfl⟩
    · rename_i hn; injection he with e1 he; injection he with e2 e3; subst e1 e2 e3; exact ⟨m, y, hm, (S.frz_self (by simpa using hn)).symm⟩
  · simp only [List.mem_map, List.mem_filter] at hm
    obtain ⟨⟨o', m, y⟩, ⟨hm, hne⟩, he⟩ := hm
    have hne' : o' ≠ r := by simpa using hne
    split at he
    · injection he with e1 he; injection he with e2 e3; subst e1 e3; exact ⟨hne', m, y, hm, rfl⟩
    · rename_i hn; injection he with e1 he; injection he with e2 e3; subst e1 e2 e3; exact ⟨hne', m, y, hm, (O.frz_self (by simpa using hn)).symm⟩
theorem Frz.live {r : Nat} {t : Ty} {l : List (den t)} (hf : Frz f g r t l) {b : Nat} (h : live c ow g.ob b) : live c ow f.ob b := by
  obtain ⟨o, n, x, hm, hx⟩ := h
  obtain ⟨_, m, y, hy, rfl⟩ := hf.ob o n x hm
  exact ⟨o, m, y, hy, (O.frz_blk r t l o b y).1 hx⟩
theorem SimC.frz (h : SimC M src c ow f a w) (hsrc : ∀ b, M b → src b) {r n e k : Nat} {t : Ty} {l : List (den t)} {deep : Bool} (hr : (r, n, .row e k t l deep) ∈ f.ob) (hf : Frz f g r t l) : SimC M src c ow g a w ∧ ∀ b, (c.rv r).ownBlock = some b → okB src c ow g.ob b := by
  have hok := h.ob _ _ _ hr
  have hg : ∀ b, b < w.heap.size → okB src c ow f.ob b → okB src c ow g.ob b := fun b _ hb => ⟨hb.1, fun hl => hb.2 (hf.live hl)⟩
  have hmain : ∀ b, (c.rv r).ownBlock = some b → okB src c ow g.ob b := by
    intro b hb
    obtain ⟨_, _, r2, _⟩ := id hok
    refine ⟨hsrc b (r2 b hb).1, fun ⟨o, m, x, hm, hx⟩ => ?_⟩
    obtain ⟨hne, m', y, hy, rfl⟩ := hf.ob o m x hm
    exact hne (h.apart hy hr ((O.frz_blk r t l o b y).1 hx) hb)
  have hdata : ∃ G, Rep w (c.rv r) (leafT (.sl t) l) G ∧ ∀ b ∈ G, okB src c ow g.ob b := by
    obtain ⟨r0, r1, r2, xs, G, r3, r4, r5, r6⟩ := hok
    obtain ⟨G', g1, g2⟩ := own_rep r3 r0 r1 r4
    exact ⟨G', g1, fun b hb => (g2 b hb).elim (hmain b) fun hb' => hg b (r4.lt b hb') (r5 b hb')⟩
  refine ⟨⟨h.defers, fun s n x hm => ?_, fun o n x hm => ?_, fun o n x m y hx hy => ?_, h.rvs⟩, hmain⟩
  · obtain ⟨m, y, hm', rfl⟩ := hf.fr s n x hm
    obtain ⟨v, hv, h1⟩ := h.fr _ _ _ hm'
    exact ⟨v, hv, S.frz_sound h1 hg hdata⟩
  · obtain ⟨hne, m, y, hy, rfl⟩ := hf.ob o n x hm
    have ho := h.ob _ _ _ hy
    cases y with
    | box cs =>
      obtain ⟨b1, b2, vs, ty, b3, b4⟩ := ho
      exact ⟨b1, b2, vs, ty, b3, b4.map_right fun u t hu => frzC_sound hu hg hdata⟩
    | row e' k' t' l' deep' =>
      obtain ⟨r0, r1, r2, xs, G, r3, r4, r5, r6⟩ := ho
      exact ⟨r0, r1, r2, xs, G, r3, r4, fun b hb => hg b (r4.lt b hb) (r5 b hb), r6⟩
    | win _ _ _ => exact ho
  · obtain ⟨_, _, z, hz, rfl⟩ := hf.ob _ _ _ hx
    obtain ⟨_, _, z', hz', rfl⟩ := hf.ob _ _ _ hy
    rw [h.uniq _ _ _ _ _ hz hz']
theorem SimC.frzRow (h : SimC M src c ow f a w) (hsrc : ∀ b, M b → src b) (r : Nat) : SimC M src c ow (f.frzRow r) a w := by
  cases hr : f.obj r with
  | none => unfold F.frzRow; rw [hr]; exact h
  | some x =>
    cases x with
    | row e k t l deep => obtain ⟨n, hm⟩ := obj_mem hr; exact (h.frz hsrc hm (frzRow_frz hr)).1
    | box _ => unfold F.frzRow; rw [hr]; exact h
    | win _ _ _ => unfold F.frzRow; rw [hr]; exact h
theorem Ext.frzRow (f : F) (r : Nat) : Ext f (f.frzRow r) := by
  unfold F.frzRow
  split
  · refine ⟨Nat.le_succ _, fun s n x hm hn => ?_, fun o n x hm hn => ?_⟩
    · simp only [List.mem_map] at hm
      obtain ⟨⟨s', m, y⟩, hm, he⟩ := hm
      split at he
      · injection he with _ he; injection he with e _; omega
      · rw [← he]; exact hm
    · simp only [List.mem_map, List.mem_filter] at hm
      obtain ⟨⟨o', m, y⟩, ⟨hm, _⟩, he⟩ := hm
      split at he
      · injection he with _ he; injection he with e _; omega
      · rw [← he]; exact hm
  · exact .refl _
theorem Ext.frzAll (f : F) (ids : List Nat) : Ext f (f.frzAll ids) := by
  induction ids generalizing f with
  | nil => exact .refl _
  | cons r rs ih => exact (Ext.frzRow f r).trans (ih (f.frzRow r))
theorem SimC.frzAll (h : SimC M src c ow f a w) (hsrc : ∀ b, M b → src b) (ids : List Nat) : SimC M src c ow (f.frzAll ids) a w := by
  induction ids generalizing f with
  | nil => exact h
  | cons r rs ih => exact ih (h.frzRow hsrc r)
theorem frzC_isSub {r : Nat} {t : Ty} {l : List (den t)} {x : C} (h : x.isSub = false) : (frzC r t l x).isSub = false := by
  cases x with
  | row r' => simp only [frzC]; split <;> rfl
  | rp r' k i off => simp only [frzC]; split <;> rfl
  | sub _ _ _ _ _ _ => cases h
  | ip _ _ _ _ _ _ _ => cases h
  | _ => rfl
theorem A.frz_isSub {r : Nat} {t : Ty} {l : List (den t)} {x : A} (h : x.isSub = false) : (x.frz r t l).isSub = false := by
  cases x with
  | one y => exact frzC_isSub h
  | agg cs =>
    simp only [A.isSub, A.frz, List.any_eq_false, List.mem_map] at h ⊢
    rintro _ ⟨u, hu, rfl⟩
    rw [frzC_isSub (by simpa using h u hu)]; simp
theorem S.frz_isSub {r : Nat} {t : Ty} {l : List (den t)} {x : S} (h : x.isSub = false) : (x.frz r t l).isSub = false := by
  cases x with
  | val y => exact A.frz_isSub h
  | tup xs =>
    simp only [S.isSub, S.frz, List.any_eq_false, List.mem_map] at h ⊢
    rintro _ ⟨u, hu, rfl⟩
    rw [A.frz_isSub (by simpa using h u hu)]; simp
  | un => rfl
theorem O.frz_isSub {r : Nat} {t : Ty} {l : List (den t)} {x : O} (h : x.isSub = false) : (x.frz r t l).isSub = false := by
  cases x with
  | box cs =>
    simp only [O.isSub, O.frz, List.any_eq_false, List.mem_map] at h ⊢
    rintro _ ⟨u, hu, rfl⟩
    rw [frzC_isSub (by simpa using h u hu)]; simp
  | row _ _ _ _ _ => rfl
  | win _ _ _ => rfl
theorem subFree_frzRow (h : f.subFree) (r : Nat) : (f.frzRow r).subFree := by
  cases hr : f.obj r with
  | none => unfold F.frzRow; rw [hr]; exact h
  | some x =>
    cases x with
    | row e k t l deep =>
      have hf := frzRow_frz hr
      refine ⟨fun s n x hm => ?_, fun o n x hm => ?_⟩
      · obtain ⟨m, y, hm', rfl⟩ := hf.fr s n x hm; exact S.frz_isSub (h.1 _ _ _ hm')
      · obtain ⟨_, m, y, hm', rfl⟩ := hf.ob o n x hm; exact O.frz_isSub (h.2 _ _ _ hm')
    | box _ => unfold F.frzRow; rw [hr]; exact h
    | win _ _ _ => unfold F.frzRow; rw [hr]; exact h
theorem subFree_frzAll (h : f.subFree) (ids : List Nat) : (f.frzAll ids).subFree := by
  induction ids generalizing f with
  | nil => exact h
  | cons r rs ih => exact ih (subFree_frzRow h r)
theorem mem_frzRow {r o n : Nat} {x : O} (h : (o, n, x) ∈ (f.frzRow r).ob) : ∃ m y, (o, m, y) ∈ f.ob := by
  cases hr : f.obj r with
  | none => unfold F.frzRow at h; rw [hr] at h; exact ⟨n, x, h⟩
  | some z =>
    cases z with
    | row e k t l deep => obtain ⟨_, m, y, hy, _⟩ := (frzRow_frz hr).ob o n x h; exact ⟨m, y, hy⟩
    | box _ => unfold F.frzRow at h; rw [hr] at h; exact ⟨n, x, h⟩
    | win _ _ _ => unfold F.frzRow at h; rw [hr] at h; exact ⟨n, x, h⟩
theorem mem_frzAll {ids : List Nat} {o n : Nat} {x : O} (h : (o, n, x) ∈ (f.frzAll ids).ob) : ∃ m y, (o, m, y) ∈ f.ob := by
  induction ids generalizing f with
  | nil => exact ⟨n, x, h⟩
  | cons r rs ih => obtain ⟨m, y, hy⟩ := ih (f := f.frzRow r) h; exact mem_frzRow hy
theorem live_frzRow {r b : Nat} (h : live c ow (f.frzRow r).ob b) : live c ow f.ob b := by
  cases hr : f.obj r with
  | none => unfold F.frzRow at h; rw [hr] at h; exact h
  | some z =>
    cases z with
    | row e k t l deep => exact (frzRow_frz hr).live h
    | box _ => unfold F.frzRow at h; rw [hr] at h; exact h
    | win _ _ _ => unfold F.frzRow at h; rw [hr] at h; exact h
theorem live_frzAll {ids : List Nat} {b : Nat} : live c ow (f.frzAll ids).ob b → live c ow f.ob b := by
  induction ids generalizing f with
  | nil => exact id
  | cons r rs ih => exact fun h => live_frzRow (ih (f := f.frzRow r) h)
theorem obj_of_mem (h : SimC M src c ow f a w) {o n : Nat} {x : O} (hm : (o, n, x) ∈ f.ob) : f.obj o = some x := by
  unfold F.obj
  cases hf : f.ob.find? fun e => e.1 == o with
  | none => have := List.find?_eq_none.1 hf _ hm; simp at this
  | some p =>
    obtain ⟨o', n', y⟩ := p
    have h1 := List.mem_of_find?_eq_some hf
    have h2 := List.find?_some hf
    simp at h2
    subst h2
    rw [h.uniq _ _ _ _ _ h1 hm]
    rfl
/-- A row that has become data: its own block is let, and it is no object any more. -/
theorem frzAll_own (h : SimC M src c ow f a w) (hsrc : ∀ b, M b → src b) {ids : List Nat} {r : Nat} (hr : r ∈ ids) {n e k : Nat} {t : Ty} {l : List (den t)} {deep : Bool} (hm : (r, n, .row e k t l deep) ∈ f.ob) :
    (∀ b, (c.rv r).ownBlock = some b → okB src c ow (f.frzAll ids).ob b) ∧ ∀ n x, (r, n, x) ∉ (f.frzAll ids).ob := by
  induction ids generalizing f n with
  | nil => cases hr
  | cons r1 rs ih =>
    have h1 := h.frzRow hsrc r1
    by_cases he : r = r1
    · subst he
      have hobj := obj_of_mem h hm
      have hfz := frzRow_frz hobj
      have hf := h.frz hsrc hm hfz
      refine ⟨fun g hg => ?_, fun n x hx => ?_⟩
      · have := hf.2 g hg
        exact ⟨this.1, fun hl => this.2 (live_frzAll (f := f.frzRow r) (ids := rs) hl)⟩
      · obtain ⟨m, y, hy⟩ := mem_frzAll (f := f.frzRow r) (ids := rs) hx
        exact (hfz.ob _ _ _ hy).1 rfl
    · have hr' : r ∈ rs := (List.mem_cons.1 hr).resolve_left he
      have hx : ∃ m, (r, m, .row e k t l deep) ∈ (f.frzRow r1).ob := by
        unfold F.frzRow
        split
        · rename_i e1 k1 t1 l1 deep1 hrow
          refine ⟨n, ?_⟩
          simp only [List.mem_map, List.mem_filter]
          exact ⟨(r, n, .row e k t l deep), ⟨hm, by simpa using he⟩, by simp [O.names]⟩
        · exact ⟨n, hm⟩
      obtain ⟨m, hm'⟩ := hx
      exact ih h1 hr' hm'

/-! ### a new object -/
theorem live_scrub {d b : Nat} (h : live c ow (f.scrub d).ob b) : live c ow f.ob b := by
  obtain ⟨o, n, x, hm, hx⟩ := h
  obtain ⟨_, m, y, hy, rfl⟩ := scrub_mem' hm
  refine ⟨o, m, y, hy, ?_⟩
  cases y <;> exact hx
theorem okB_but {c' : Cx} {d : Nat} (hf : ∀ o n x, (o, n, x) ∈ f.ob → o ≠ d) (k : c.but c' d) : okB src c' ow f.ob = okB src c ow f.ob := by
  have hblk : ∀ o n x, (o, n, x) ∈ f.ob → ∀ b, x.blk c' ow o b ↔ x.blk c ow o b := by
    intro o n x hm b
    have hne := hf o n x hm
    cases x with
    | box cs => simp [O.blk, k.loc o hne]
    | row e kk t l deep => simp [O.blk, k.rv o hne]
    | win _ _ _ => exact Iff.rfl
  funext b
  apply propext
  constructor
  · rintro ⟨h1, h2⟩
    exact ⟨h1, fun ⟨o, n, x, hm, hx⟩ => h2 ⟨o, n, x, hm, (hblk o n x hm b).2 hx⟩⟩
  · rintro ⟨h1, h2⟩
    exact ⟨h1, fun ⟨o, n, x, hm, hx⟩ => h2 ⟨o, n, x, hm, (hblk o n x hm b).1 hx⟩⟩
theorem All2.scrub {vs : List Value} {cs : List C} (h : All2 (RelC c ow w ok) vs cs) (hrv : ∀ r, ∃ ad n k, c.rv r = .slice ad n k) (d : Nat) : All2 (RelC c ow w ok) vs (cs.map (scrubC d)) := h.map_right fun u x hr => by
  unfold scrubC
  split
  · exact one_cell hrv hr
  · exact hr
theorem Ext.add (f : F) (d : Nat) (x : O) : Ext f (f.add d x) := by
  refine (Ext.scrub f d).trans ⟨Nat.le_succ _, fun _ _ _ h _ => h, fun o n y hm hn => ?_⟩
  rcases List.mem_cons.1 hm with he | hm
  · injection he with _ he; injection he with e _; simp [F.scrub] at hn e; omega
  · exact hm
theorem Ext.newOb (f : F) (d : Nat) (x : O) (y : C) : Ext f (f.newOb d x y) := (Ext.add f d x).trans (Ext.put _ _ _)
/-- The model lays a new variable: the frame does. -/
theorem newBox_sound (h : SimC M src c ow f a w) (hsf : f.subFree) {d : Nat} (hd : d < a.tmps.size) {vs : List Value} {cs : List C} (ty : TypeId) (hv : All2 (RelC c ow w (okB src c ow f.ob)) vs cs) (hcs : ∀ x ∈ cs, x.isSub = false) (hM : M w.heap.size) :
    ∃ ow', SimC M src (c.setLoc d w.heap.size) ow' (f.newOb d (.box (cs.map (scrubC d))) (.ptr d 0)) (a.put (some d) (.pointer (some ⟨w.heap.size, 0, none⟩))) (w.alloc (.cells vs.toArray ty (0, 0))) := by
  have h1 := h.scrub d
  have hf := free_scrub f d
  have h2 := h1.recx hf (c.but_loc d w.heap.size) h.rvs
  have hloc : (c.setLoc d w.heap.size).loc d = w.heap.size := by simp [Cx.setLoc]
  have hsz : (w.alloc (.cells vs.toArray ty (0, 0))).heap.size = w.heap.size + 1 := by simp
  have hblk : ∀ b, b < w.heap.size → (w.alloc (.cells vs.toArray ty (0, 0))).heap[b]? = w.heap[b]? := fun b hb => Below.heap_alloc _ _ _ hb
  let ow' : Nat → Option Nat := fun b => if b = w.heap.size then some d else ow b
  have ho : ∀ b, b < w.heap.size → ow' b = ow b := fun b hb => by simp only [ow']; rw [if_neg (by omega)]
  have hokeq : okB src (c.setLoc d w.heap.size) ow (f.scrub d).ob = okB src c ow (f.scrub d).ob := okB_but (fun o n x hm => (hf.2 o n x hm).1) (c.but_loc d w.heap.size)
  have h3 := h2.add (subFree_scrub hsf d) (w' := w.alloc (.cells vs.toArray ty (0, 0))) (ow' := ow') (d := d) (m := (f.scrub d).ctr) (n' := (f.scrub d).ctr + 1) (x := .box (cs.map (scrubC d))) (fun o n y hy => (hf.2 o n y hy).1) (by omega) hblk ho (fun b hb => by have hb : (c.setLoc d w.heap.size).loc d = b := hb; omega) ?_
  · exact ⟨ow', h3.put (d := d) (v := .pointer (some ⟨w.heap.size, 0, none⟩)) hd (by simp [RelS, RelA, RelC, Cx.setLoc])⟩
  · refine ⟨by rw [hloc]; exact hM, by rw [hloc]; simp [ow'], vs, ty, by rw [hloc]; exact heap_alloc_new w _, ?_⟩
    have hv1 := hv.scrub h.rvs d
    refine hv1.mono fun u x hx hr => ?_
    have hns : x.isSub = false := by obtain ⟨y, hy, rfl⟩ := List.mem_map.1 hx; exact C.isSub_scrub (hcs y hy)
    have hnm : x.names d = false := by obtain ⟨y, hy, rfl⟩ := List.mem_map.1 hx; exact C.names_scrub d y
    refine (hr.but hnm (c.but_loc d w.heap.size)).keep hns ⟨by omega, fun b hb _ => hblk b hb, fun b hb hok => ⟨hok.1, fun hl => ?_⟩⟩
    obtain ⟨o, n, y, hy, hyb⟩ := hl
    rcases List.mem_cons.1 hy with he | hy
    · injection he with e1 he; injection he with _ e2; subst e1 e2
      have hyb : (c.setLoc o w.heap.size).loc o = b := hyb
      omega
    · refine hok.2 (live_scrub (d := d) ⟨o, n, y, hy, ?_⟩)
      have hne := (hf.2 o n y hy).1
      cases y with
      | box _ => simpa [O.blk, Cx.setLoc, hne] using hyb
      | row _ _ _ _ _ => exact hyb
      | win _ _ _ => show ow b = some o; rw [← ho b hb]; exact hyb
theorem run_newVar {P : Program} {t : TypeId} {v : Value} (w : World) : (newVar t v).run P w = .ok ⟨w.heap.size, 0, none⟩ (w.alloc (.cells v.cells t (0, 0))) := by
  simp [newVar, newRow]
end
end Go.V
set_option linter.unusedVariables false
set_option linter.unusedSectionVars false
namespace Go.V
open Go.Ab Go.RowKit
section
variable {P : Program} {w : World} {a : Act} {o : Oper} {B : Nat}

theorem nodupB_sound : ∀ {l : List Nat}, nodupB l = true → l.Nodup
  | [], _ => List.nodup_nil
  | x :: xs, h => by
    simp only [nodupB, Bool.and_eq_true, Bool.not_eq_true'] at h
    exact List.nodup_cons.2 ⟨by simpa using h.1, nodupB_sound h.2⟩

theorem RepL_replicate {vs : List Value} {ts : List T} (h : RepL w vs ts []) : ∀ n, RepL w (List.replicate n vs).flatten (List.replicate n ts).flatten []
  | 0 => .nil
  | n + 1 => by
    rw [List.replicate_succ, List.replicate_succ, List.flatten_cons, List.flatten_cons]
    exact h.append (RepL_replicate h n)

theorem madeCells_flatten (z : Array Value) (hz : 0 < z.size) : ∀ n, (madeCells z (n * z.size)).toList = (List.replicate n z.toList).flatten := by
  intro n
  apply List.ext_getElem?
  intro j
  induction n generalizing j with
  | zero => simp [madeCells]
  | succ n ih =>
    rw [List.replicate_succ', List.flatten_append, List.flatten_cons, List.flatten_nil, List.append_nil]
    have hlen : (List.replicate n z.toList).flatten.length = n * z.size := by simp [List.length_flatten]
    by_cases hj : j < n * z.size
    · rw [List.getElem?_append_left (by omega), ← ih j]
      simp only [madeCells, Array.toList_map, Array.toList_range, List.getElem?_map]
      rw [List.getElem?_range hj, List.getElem?_range (by rw [Nat.succ_mul]; omega)]
    · rw [List.getElem?_append_right (by omega), hlen]
      simp only [madeCells, Array.toList_map, Array.toList_range, List.getElem?_map]
      by_cases hj2 : j < (n + 1) * z.size
      · rw [List.getElem?_range hj2]
        have hlt : j - n * z.size < z.size := by rw [Nat.succ_mul] at hj2; omega
        have hmod : j % z.size = j - n * z.size := by
          have : j = (j - n * z.size) + z.size * n := by rw [Nat.mul_comm z.size n]; omega
          rw [this, Nat.add_mul_mod_self_left, Nat.mod_eq_of_lt (by omega), ← this]
        simp [hmod, hlt]
      · rw [List.getElem?_eq_none (by simpa using hj2)]
        have : ¬ j - n * z.size < z.size := by rw [Nat.succ_mul] at hj2; omega
        simp [this]

theorem ownsRow_new {e k n : Nat} (cells : List Value) (hB : B ≤ w.heap.size) (hn : n ≤ maxLen) (hl : cells.length = n * k) :
    (w.alloc (.cells cells.toArray e (0, 0))).ownsRow B e k (.slice (some ⟨w.heap.size, 0, none⟩) n n) n cells :=
  ⟨hl, .inr ⟨w.heap.size, n, cells.toArray, rfl, hB, heap_alloc_new w _, Nat.le_refl _, hn, by simpa using hl, by simpa using List.take_of_length_le (Nat.le_of_eq hl)⟩⟩

theorem fill_seq (size : Nat) : ∀ (vs : List Value) (j : Nat) (cells : Array Value), (∀ v ∈ vs, v.cells.size = size) → (j + vs.length) * size ≤ cells.size →
    Instr.fill (fun i => some (i * size, size)) cells ((List.range' j vs.length).zip vs) = some (cells.toList.take (j * size) ++ (vs.map fun v => v.cells.toList).flatten ++ cells.toList.drop ((j + vs.length) * size)).toArray
  | [], j, cells, _, _ => by simp [Instr.fill]
  | v :: vs, j, cells, hv, hle => by
    have hsz : v.cells.size = size := hv v (List.mem_cons_self ..)
    have hle' : (j + 1 + vs.length) * size ≤ cells.size := by rw [show j + 1 + vs.length = j + (v :: vs).length by simp; omega]; exact hle
    have h1 : j * size + size ≤ cells.size := by
      have : (j + 1) * size ≤ (j + 1 + vs.length) * size := Nat.mul_le_mul_right _ (by omega)
      rw [Nat.succ_mul] at this
      omega
    rw [List.length_cons, List.range'_succ, List.zip_cons_cons]
    unfold Instr.fill
    simp only [hsz, ne_eq, not_true_eq_false, decide_false, Bool.false_or]
    have hif : ¬ (j * size + size > cells.size) := by omega
    simp only [gt_iff_lt, decide_eq_true_eq]
    rw [if_neg (by omega)]
    have hfold : (v.cells.zipIdx.foldl (fun cs (x : Value × Nat) => cs.setIfInBounds (j * size + x.2) x.1) cells) = (cells.toList.take (j * size) ++ v.cells.toList ++ cells.toList.drop (j * size + size)).toArray := by
      rw [← Array.foldl_toList, Array.toList_zipIdx]
      have := foldl_set (j * size) v.cells.toList 0 cells (by simpa [hsz] using h1)
      simpa [hsz] using this
    have hfold' : (v.cells.zipIdx.foldl (fun cs x => match x with | (c, j_1) => cs.setIfInBounds (j * size + j_1) c) cells) = (cells.toList.take (j * size) ++ v.cells.toList ++ cells.toList.drop (j * size + size)).toArray := hfold
    rw [hfold']
    have hlen1 : (cells.toList.take (j * size) ++ v.cells.toList).length = (j + 1) * size := by
      rw [List.length_append, List.length_take, Array.length_toList, Array.length_toList, hsz, Nat.succ_mul]
      omega
    rw [fill_seq size vs (j + 1) _ (fun u hu => hv u (List.mem_cons_of_mem _ hu)) (by
      simp only [List.size_toArray, List.length_append, List.length_take, List.length_drop, Array.length_toList, hsz]
      omega)]
    congr 2
    have e1 : (cells.toList.take (j * size) ++ v.cells.toList ++ cells.toList.drop (j * size + size)).take ((j + 1) * size) = cells.toList.take (j * size) ++ v.cells.toList := by
      rw [← hlen1, List.take_left]
    have e2 : (cells.toList.take (j * size) ++ v.cells.toList ++ cells.toList.drop (j * size + size)).drop ((j + 1 + vs.length) * size) = cells.toList.drop ((j + (vs.length + 1)) * size) := by
      rw [List.drop_append, List.drop_eq_nil_of_le (by rw [hlen1]; exact Nat.mul_le_mul_right _ (by omega)), List.nil_append, List.drop_drop, hlen1]
      congr 1
      have : (j + 1 + vs.length) * size = (j + 1) * size + vs.length * size := by rw [Nat.add_mul]
      have : (j + (vs.length + 1)) * size = j * size + size + vs.length * size := by rw [Nat.add_mul, Nat.succ_mul]; omega
      have : (j + 1) * size = j * size + size := Nat.succ_mul _ _
      omega
    simp only [e1, e2]
    simp

theorem flatten_set {k : Nat} : ∀ {es : List (List T)} {i : Nat} {el' : List T}, (∀ x ∈ es, x.length = k) → i < es.length → el'.length = k → (es.set i el').flatten = sp es.flatten (i * k) el'
  | [], i, el', _, hi, _ => by simp at hi
  | e :: es, 0, el', hk, _, hl => by
    have he : e.length = k := hk e (List.mem_cons_self ..)
    simp [sp, hl, ← he]
  | e :: es, i + 1, el', hk, hi, hl => by
    have he : e.length = k := hk e (List.mem_cons_self ..)
    have ih := flatten_set (es := es) (i := i) (el' := el') (fun x hx => hk x (List.mem_cons_of_mem _ hx)) (by simpa using hi) hl
    rw [List.set_cons_succ, List.flatten_cons, ih, List.flatten_cons]
    unfold sp
    have h1 : (i + 1) * k = e.length + i * k := by rw [Nat.succ_mul, he]; omega
    rw [h1, List.take_length_add_append, Nat.add_assoc, List.drop_length_add_append]
    simp

theorem sp_length {α : Type} {L cs : List α} {off : Nat} (h : off + cs.length ≤ L.length) : (sp L off cs).length = L.length := by
  unfold sp
  simp
  omega

theorem sp_sp {L el ts : List T} {p k off : Nat} (hel : el = (L.drop p).take k) (hp : p + k ≤ L.length) (ho : off + ts.length ≤ k) : sp L p (sp el off ts) = sp L (p + off) ts := by
  have hel' : el.length = k := by rw [hel]; simp; omega
  have hsl : (sp el off ts).length = k := by rw [sp_length (by omega)]; exact hel'
  unfold sp at hsl ⊢
  rw [hsl]
  have e1 : el.take off = (L.drop p).take off := by rw [hel, List.take_take]; congr 1; omega
  have e2 : el.drop (off + ts.length) = ((L.drop p).drop (off + ts.length)).take (k - (off + ts.length)) := by rw [hel, List.drop_take]
  rw [e1, e2]
  have e3 : L.take (p + off) = L.take p ++ (L.drop p).take off := List.take_add
  rw [e3]
  have e4 : L.drop (p + off + ts.length) = ((L.drop p).drop (off + ts.length)).take (k - (off + ts.length)) ++ L.drop (p + k) := by
    rw [List.drop_drop]
    have : L.drop (p + k) = (L.drop (p + (off + ts.length))).drop (k - (off + ts.length)) := by
      rw [List.drop_drop]; congr 1; omega
    rw [this, List.take_append_drop]
    congr 1
    omega
  rw [e4]
  simp

theorem rep_one {v : Value} {t : T} {F : List Nat} (h : Rep w v t F) : v.oneCell' = true := by
  cases h with
  | lit hp => cases v <;> simp [plain] at hp <;> rfl
  | nil hc => rfl
  | cons hn h0 hk0 hk hc hm hx hcell hr => rfl

theorem repL_one {vs : List Value} {ts : List T} {F : List Nat} (h : RepL w vs ts F) : ∀ u ∈ vs, u.oneCell' = true := by
  induction vs generalizing ts F with
  | nil => simp
  | cons v vs ih =>
    cases h with
    | cons h hs =>
      intro u hu
      rcases List.mem_cons.1 hu with rfl | hu
      · exact rep_one h
      · exact ih hs u hu

theorem run_app_nil {t ty e : TypeId} {i : TypeInfo} {k n : Nat} (ht : P.underlying t = some (.slice e)) (hi : P.info? e = some i) {v : Value} {xs : List Value} (hown : w.ownsRow B e k v n xs) (c : Nat) : (Builtin.append_ #[t, t] ty #[v, .slice none 0 c]).run P w = .ok v w := by
  rcases hown.2 with ⟨rfl, rfl⟩ | ⟨g, cap, cur, rfl, _, _, hnc, _⟩
  · simp [Builtin.append_, run_underlying ht, sizeOf, typeInfo, hi, Builtin.lenOf, Builtin.firstCells]
  · simp [Builtin.append_, run_underlying ht, sizeOf, typeInfo, hi, Builtin.lenOf, Builtin.firstCells, hnc, storeCells]

theorem run_app {t ty e : TypeId} {i : TypeInfo} {z : Value} {n : Nat} (ht : P.underlying t = some (.slice e)) (hi : P.info? e = some i) (hz : i.zero = some z) (hzs : z.cells.size = i.size) (h0 : 0 < i.size) {v u : Value} {xs : List Value} {es : List (List T)} {F : List Nat}
    (hown : w.ownsRow B e i.size v n xs) (hu : Rep w u (.sl es) F) (hk : ∀ x ∈ es, x.length = i.size) (hle : (n + es.length) * (i.bytes + 1) ≤ 140737488355328) (hB : B ≤ w.heap.size) :
    ∃ v' w' news G, (Builtin.append_ #[t, t] ty #[v, u]).run P w = .ok v' w' ∧ w'.ownsRow B e i.size v' (n + es.length) (xs ++ news) ∧ w.grownBy w' v.ownBlock ∧ (v'.ownBlock = v.ownBlock ∨ v'.ownBlock = some w.heap.size) ∧ RepL w news es.flatten G ∧ (∀ b ∈ G, b ∈ F) ∧ (F.Nodup → G.Nodup) := by
  have hle1 : (n + es.length) * i.bytes ≤ 140737488355328 := Nat.le_trans (Nat.mul_le_mul_left _ (Nat.le_succ _)) hle
  have hle2 : n + es.length ≤ maxLen := by
    have : n + es.length ≤ (n + es.length) * (i.bytes + 1) := Nat.le_mul_of_pos_right _ (Nat.succ_pos _)
    simp only [maxLen]
    omega
  cases hu with
  | @nil A cc hc =>
    cases A with
    | none => exact ⟨v, w, [], [], run_app_nil ht hi hown cc, by simpa using hown, World.grownBy.refl w _, .inl rfl, by simpa using .nil, by simp, fun _ => List.nodup_nil⟩
    | some ad =>
      obtain ⟨v', w', g1, g2, g3, _, g5⟩ := run_append_own_at (P := P) w B t ty e i z i.size i.bytes ht hi hz rfl rfl hzs h0 v n xs hown ad 0 cc [] (by simp) (by simp) (by simp) (by simpa using hle2) (by simpa using hle1) hB
      exact ⟨v', w', [], [], g1, g2, g3, g5, by simpa using .nil, by simp, fun _ => List.nodup_nil⟩
  | @cons b off m cc k es news F hn hp hk0 hk' hc hm hx hcell hr =>
    subst hn
    have hkk : k = i.size := by
      obtain ⟨x, hx⟩ := List.exists_mem_of_length_pos hp
      rw [← hk' x hx, hk x hx]
    subst hkk
    obtain ⟨v', w', g1, g2, g3, _, g5⟩ := run_append_own_at (P := P) w B t ty e i z i.size i.bytes ht hi hz rfl rfl hzs h0 v n xs hown ⟨b, off, none⟩ es.length cc news hx (fun j u hu => by rw [add_eq]; exact hcell j u hu) (repL_one hr) hle2 hle1 hB
    exact ⟨v', w', news, F, g1, g2, g3, g5, hr, fun b hb => List.mem_cons_of_mem _ hb, fun h => (List.nodup_cons.1 h).2⟩

def _root_.Go.Ab.T.isSl : T → Bool
  | .sl _ => true
  | _ => false

theorem _root_.Go.Ab.Rep.noSl {t : T} {v : Value} {F : List Nat} (h : Rep w v t F) (ht : t.isSl = false) : F = [] := by
  cases h with
  | lit hp => rfl
  | nil hc => cases ht
  | cons hn h0 hk0 hk hc hm hx hcell hr => cases ht

theorem _root_.Go.Ab.RepL.noSl {ts : List T} {vs : List Value} {F : List Nat} (h : RepL w vs ts F) (ht : ts.any T.isSl = false) : F = [] := by
  induction vs generalizing ts F with
  | nil => cases h; rfl
  | cons v vs ih =>
    cases h with
    | cons h hs =>
      simp only [List.any_cons, Bool.or_eq_false_iff] at ht
      rw [h.noSl ht.1, ih hs ht.2]
      rfl

theorem RepL_noSl {es : List (List T)} (h : ∀ x ∈ es, x.any T.isSl = false) : es.flatten.any T.isSl = false := by
  rw [List.any_eq_false]
  intro t ht
  obtain ⟨x, hx, hm⟩ := List.mem_flatten.1 ht
  have := List.any_eq_false.1 (h x hx) t hm
  exact this

theorem _root_.Go.Ab.RepL.sp {xs us : List Value} {ts ts' : List T} {F G : List Nat} (h : RepL w xs ts F) (h' : RepL w us ts' G) (off : Nat) : ∃ F1 F3, RepL w (sp xs off us) (sp ts off ts') (F1 ++ G ++ F3) ∧ (∀ b ∈ F1 ++ F3, b ∈ F) ∧ (F.Nodup → (F1 ++ F3).Nodup) := by
  unfold Go.V.sp
  rw [h'.length]
  obtain ⟨F1, F2, F3, a1, a2, a3, a4⟩ := h.parts off ts'.length
  refine ⟨F1, F3, (a1.append h').append a3, ?_, ?_⟩
  · intro b hb
    rw [a4]
    rcases List.mem_append.1 hb with hb | hb
    · exact List.mem_append_left _ hb
    · exact List.mem_append_right _ (List.mem_append_right _ hb)
  · intro hnd
    rw [a4] at hnd
    obtain ⟨n1, n2, n3⟩ := List.nodup_append.1 hnd
    exact List.nodup_append.2 ⟨n1, (List.nodup_append.1 n2).2.1, fun x hx y hy => n3 x hx y (List.mem_append_right _ hy)⟩

end
end Go.V
set_option linter.unusedVariables false
set_option linter.unusedSectionVars false
namespace Go.V
open Go.Ab Go.RowKit

section
variable {M src : Nat → Prop} {c : Cx} {ow : Nat → Option Nat} {f : F} {a : Act} {w : World} {P : Program} {o : Oper} {ok : Nat → Prop}

theorem O.blk_but {c' : Cx} {d : Nat} (k : c.but c' d) {o b : Nat} (hne : o ≠ d) (x : O) : x.blk c' ow o b ↔ x.blk c ow o b := by
  cases x with
  | box cs => simp [O.blk, k.loc o hne]
  | row e kk t l deep => simp [O.blk, k.rv o hne]
  | win _ _ _ => exact Iff.rfl
theorem ObOk.but {c' : Cx} {d o : Nat} {x : O} (h : ObOk M c ow w ok o x) (hne : o ≠ d) (hn : x.names d = false) (k : c.but c' d) : ObOk M c' ow w ok o x := by
  cases x with
  | box cs =>
    obtain ⟨b1, b2, vs, ty, b3, b4⟩ := h
    simp only [O.names, List.any_eq_false] at hn
    exact ⟨by rw [k.loc o hne]; exact b1, by rw [k.loc o hne]; exact b2, vs, ty, by rw [k.loc o hne]; exact b3, b4.mono fun u t ht hr => hr.but (by simpa using hn t ht) k⟩
  | row e kk t l deep =>
    obtain ⟨r0, r1, r2, xs, G, r3, r4, r5, r6⟩ := h
    exact ⟨r0, r1, by rw [k.rv o hne]; exact r2, xs, G, by rw [k.rv o hne]; exact r3, r4, r5, by rw [k.rv o hne]; exact r6⟩
  | win kk t l =>
    obtain ⟨r0, r1, G, r2, r3, r4⟩ := h
    exact ⟨r0, r1, G, by rw [k.rv o hne]; exact r2, r3, r4⟩
theorem ObOk.le {o : Nat} {x y : O} (h : ObOk M c ow w ok o y) (hrv : ∀ r, ∃ ad n k, c.rv r = .slice ad n k) (hle : x.le y) : ObOk M c ow w ok o x := by
  cases hle with
  | box hall =>
    obtain ⟨b1, b2, vs, ty, b3, b4⟩ := h
    exact ⟨b1, b2, vs, ty, b3, b4.comp hall fun u t t' hr ht => by
      rcases ht with rfl | rfl
      · exact hr
      · exact one_cell hrv hr⟩
  | row hd =>
    obtain ⟨r0, r1, r2, xs, G, r3, r4, r5, r6⟩ := h
    exact ⟨r0, r1, r2, xs, G, r3, r4, r5, fun hd' => r6 (hd hd')⟩
  | win => exact h
theorem O.scrub_blk (d o b : Nat) (y : O) : (y.scrub d).blk c ow o b ↔ y.blk c ow o b := by cases y <;> exact Iff.rfl
theorem O.scrub_isSub {d : Nat} {y : O} (h : y.isSub = false) : (y.scrub d).isSub = false := by
  cases y with
  | box cs =>
    simp only [O.isSub, O.scrub, List.any_eq_false, List.mem_map] at h ⊢
    rintro t ⟨u, hu, rfl⟩
    have := C.isSub_scrub (d := d) (by simpa using h u hu)
    simp [this]
  | row _ _ _ _ _ => rfl
  | win _ _ _ => rfl

/-- The place of object d is taken by a new row: in new blocks, or in those of row d as it was. 'was': the block that row d had. -/
theorem SimC.putRow (h : SimC M src c ow f a w) (hsf : f.subFree) {w' : World} {d : Nat} {was : Option Nat} (hwas : ∀ b, was = some b → ow b = some d ∧ live c ow f.ob b) {v : Value} {e k : Nat} {t : Ty} {l : List (den t)} {xs : List Value} {G : List Nat} {deep : Bool}
    (hs : w.heap.size ≤ w'.heap.size) (hb : ∀ b, b < w.heap.size → some b ≠ was → w'.heap[b]? = w.heap[b]?) (hv : v.ownBlock = none ∨ v.ownBlock = was ∨ v.ownBlock = some w.heap.size) (hM : ∀ b, v.ownBlock = some b → M b) (hown : w'.ownsRow 0 e k v l.length xs) (hk0 : 0 < k) (hk : tyLen t = k)
    (hrep : RepL w' xs (l.map (cells t)).flatten G) (hG : ∀ b ∈ G, b < w.heap.size ∧ okB src c ow f.ob b) (hdeep : deep = true → G.Nodup ∧ ∀ b ∈ G, M b ∧ Unf w' b ∧ ∃ r, ow b = some r ∧ (r = d ∨ ∀ n x, (r, n, x) ∉ f.ob)) :
    ∃ ow', SimC M src (c.setRv d v) ow' (f.add d (.row e k t l deep)) a w' := by
  obtain ⟨ad, cap, hve, _⟩ := ownsRow_len hown
  have hrvs : ∀ q, ∃ ad n k, (c.setRv d v).rv q = .slice ad n k := by
    intro q
    simp only [Cx.setRv]
    split
    · exact ⟨_, _, _, hve⟩
    · exact h.rvs q
  have kb := c.but_rv d v
  have hrv : (c.setRv d v).rv d = v := by simp [Cx.setRv]
  let ow' : Nat → Option Nat := fun b => if v.ownBlock = some b ∨ (deep = true ∧ b ∈ G) then some d else ow b
  have how : ∀ b o, b < w.heap.size → (∃ n x, (o, n, x) ∈ f.ob) → o ≠ d → (ow' b = some o ↔ ow b = some o) := by
    intro b o hlt ⟨n, x, hm⟩ hne
    show (if v.ownBlock = some b ∨ (deep = true ∧ b ∈ G) then some d else ow b) = some o ↔ _
    split
    · rename_i hc
      constructor
      · intro e; injection e with e; exact absurd e.symm hne
      · intro e
        exfalso
        rcases hc with hc | ⟨hd, hbG⟩
        · rcases hv with hv | hv | hv
          · rw [hv] at hc; cases hc
          · rw [hv] at hc
            rw [(hwas b hc).1] at e
            injection e with e
            exact hne e.symm
          · rw [hv] at hc; injection hc with hc; omega
        · obtain ⟨_, _, r, q1, q2⟩ := (hdeep hd).2 b hbG
          rw [q1] at e
          injection e with e
          subst e
          rcases q2 with q2 | q2
          · exact hne q2
          · exact q2 n x hm
    · exact Iff.rfl
  have hnw : ∀ b, okB src c ow f.ob b → some b ≠ was := fun b hok e => hok.2 (hwas b e.symm).2
  have hlv : ∀ b, b < w.heap.size → live (c.setRv d v) ow' (f.add d (.row e k t l deep)).ob b → live c ow f.ob b := by
    rintro b hlt ⟨o, n, x, hm, hx⟩
    rcases List.mem_cons.1 hm with he | hm
    · injection he with e1 he
      injection he with _ e2
      subst e1 e2
      have hx : ((c.setRv o v).rv o).ownBlock = some b := hx
      rw [hrv] at hx
      rcases hv with hv | hv | hv
      · rw [hv] at hx; cases hx
      · rw [hv] at hx; exact (hwas b hx).2
      · rw [hv] at hx; injection hx with hx; omega
    · obtain ⟨hne, m, y, hy, rfl⟩ := scrub_mem' hm
      refine ⟨o, m, y, hy, ?_⟩
      rw [O.scrub_blk] at hx
      cases y with
      | box _ => exact (O.blk_but kb hne (.box _)).1 hx
      | row _ _ _ _ _ => exact (O.blk_but (ow := ow') kb hne _).1 hx
      | win _ _ _ => exact (how b o hlt ⟨m, _, hy⟩ hne).1 hx
  have kp : Keeps w w' (okB src c ow f.ob) (okB src (c.setRv d v) ow' (f.add d (.row e k t l deep)).ob) := ⟨hs, fun b hlt hok => hb b hlt (hnw b hok), fun b hlt hok => ⟨hok.1, fun hl => hok.2 (hlv b hlt hl)⟩⟩
  refine ⟨ow', h.defers, fun s n x hm => ?_, fun o n x hm => ?_, fun o n x m y hx hy => ?_, hrvs⟩
  · have hm1 := (List.mem_filter.1 hm).1
    have hm2 : x.names d = false := by simpa using (List.mem_filter.1 hm).2
    obtain ⟨u, hu, h1⟩ := h.fr s n x hm1
    exact ⟨u, hu, (h1.but hm2 kb).keep (hsf.1 s n x hm1) kp⟩
  · rcases List.mem_cons.1 hm with he | hm
    · injection he with e1 he
      injection he with _ e2
      subst e1 e2
      refine ⟨hk0, hk, fun g hg => ?_, xs, G, by rw [hrv]; exact hown, hrep, fun b hbG => kp.good b (hG b hbG).1 (hG b hbG).2, fun hd => ?_⟩
      · rw [hrv] at hg; exact ⟨hM g hg, by simp [ow', hg]⟩
      · obtain ⟨hnd, hall⟩ := hdeep hd
        refine ⟨hnd, fun b hbG => ?_⟩
        obtain ⟨q1, q2, _⟩ := hall b hbG
        refine ⟨q1, by simp [ow', hd, hbG], ?_, q2⟩
        rw [hrv]
        intro hvb
        obtain ⟨hlt, hok⟩ := hG b hbG
        rcases hv with hv | hv | hv
        · rw [hv] at hvb; cases hvb
        · rw [hv] at hvb; exact hnw b hok hvb.symm
        · rw [hv] at hvb; injection hvb with hvb; omega
    · obtain ⟨hne, m, y, hy, rfl⟩ := scrub_mem' hm
      have h1 := ((h.ob o m y hy).le h.rvs (O.scrub_le d y)).but hne (O.scrub_names y d) kb
      refine h1.keep (O.scrub_isSub (hsf.2 o m y hy)) kp (fun b hlt how' hbb => hb b hlt fun e => ?_) (fun b hlt how' => (how b o hlt ⟨m, y, hy⟩ hne).2 how')
      rw [(hwas b e.symm).1] at how'
      injection how' with how'
      exact hne how'.symm
  · rcases List.mem_cons.1 hx with he | hx1
    · injection he with e1 e2
      injection e2 with _ e2
      rcases List.mem_cons.1 hy with he' | hy1
      · injection he' with e3 e4
        injection e4 with _ e4
        rw [e2, e4]
      · exact absurd e1 (scrub_mem' hy1).1
    · rcases List.mem_cons.1 hy with he' | hy1
      · injection he' with e3 e4
        exact absurd e3 (scrub_mem' hx1).1
      · obtain ⟨_, _, x', hx', rfl⟩ := scrub_mem' hx1
        obtain ⟨_, _, y', hy', rfl⟩ := scrub_mem' hy1
        rw [h.uniq _ _ _ _ _ hx' hy']

/-! ### what is moved into a row -/
/-- Facts on blocks that moved cells take up. -/
def Taken (M : Nat → Prop) (c : Cx) (ow : Nat → Option Nat) (w : World) (ok : Nat → Prop) (ids : List Nat) (dp : Bool) (G : List Nat) : Prop :=
  (∀ b ∈ G, ok b ∨ ∃ r ∈ ids, (c.rv r).ownBlock = some b) ∧ (dp = true → G.Nodup ∧ ∀ b ∈ G, M b ∧ Unf w b ∧ ∃ r ∈ ids, ow b = some r)
theorem Taken.append {i1 i2 : List Nat} {d1 d2 : Bool} {G H : List Nat} (h1 : Taken M c ow w ok i1 d1 G) (h2 : Taken M c ow w ok i2 d2 H) (hn : (i1 ++ i2).Nodup) : Taken M c ow w ok (i1 ++ i2) (d1 && d2) (G ++ H) := by
  refine ⟨fun b hb => ?_, fun hd => ?_⟩
  · rcases List.mem_append.1 hb with hb | hb
    · exact (h1.1 b hb).imp id fun ⟨r, hr, he⟩ => ⟨r, List.mem_append_left _ hr, he⟩
    · exact (h2.1 b hb).imp id fun ⟨r, hr, he⟩ => ⟨r, List.mem_append_right _ hr, he⟩
  · simp only [Bool.and_eq_true] at hd
    obtain ⟨n1, a1⟩ := h1.2 hd.1
    obtain ⟨n2, a2⟩ := h2.2 hd.2
    refine ⟨List.nodup_append.2 ⟨n1, n2, fun x hx y hy hxy => ?_⟩, fun b hb => ?_⟩
    · subst hxy
      obtain ⟨_, _, r1, hr1, e1⟩ := a1 x hx
      obtain ⟨_, _, r2, hr2, e2⟩ := a2 x hy
      rw [e1] at e2
      injection e2 with e2
      subst e2
      exact (List.nodup_append.1 hn).2.2 r1 hr1 r1 hr2 rfl
    · rcases List.mem_append.1 hb with hb | hb
      · obtain ⟨p1, p2, r, hr, he⟩ := a1 b hb; exact ⟨p1, p2, r, List.mem_append_left _ hr, he⟩
      · obtain ⟨p1, p2, r, hr, he⟩ := a2 b hb; exact ⟨p1, p2, r, List.mem_append_right _ hr, he⟩
/-- A row with its blocks, as data. -/
theorem row_taken (h : SimC M src c ow f a w) {r e k : Nat} {t : Ty} {l : List (den t)} {deep : Bool} (hr : f.obj r = some (.row e k t l deep)) : ∃ G, Rep w (c.rv r) (leafT (.sl t) l) G ∧ Taken M c ow w (okB src c ow f.ob) [r] deep G := by
  obtain ⟨r0, r1, r2, xs, G, r3, r4, r5, r6⟩ := h.obj hr
  have hkk : ∀ z ∈ l.map (cells t), z.length = k := fun z hz => by obtain ⟨y, _, rfl⟩ := List.mem_map.1 hz; rw [cells_len, r1]
  obtain ⟨hl, hform⟩ := r3
  rcases hform with ⟨hnil, h0⟩ | ⟨g, cap, cur, hrv, hB, hh, h1, h2, h3, h4⟩
  · have : l = [] := List.length_eq_zero_iff.1 h0
    subst this
    rw [hnil]
    exact ⟨[], .nil (Nat.zero_le _), by simp, fun _ => by simp⟩
  · rcases Nat.eq_zero_or_pos l.length with h0 | h0
    · have : l = [] := List.length_eq_zero_iff.1 h0
      subst this
      rw [hrv]
      exact ⟨[], .nil h2, by simp, fun _ => by simp⟩
    · have hob : (c.rv r).ownBlock = some g := by simp [hrv, Value.ownBlock]
      refine ⟨g :: G, ?_, fun b hb => ?_, fun hd => ?_⟩
      · rw [hrv]
        refine .cons (k := k) (by simp) h0 r0 hkk h1 h2 hl (fun j u hu => ?_) r4
        rw [Nat.zero_add]
        rw [← h4, List.getElem?_take] at hu
        split at hu
        · simp only [World.cell?, hh]
          simpa using hu
        · cases hu
      · rcases List.mem_cons.1 hb with rfl | hb
        · exact .inr ⟨r, List.mem_singleton.2 rfl, hob⟩
        · exact .inl (r5 b hb)
      · obtain ⟨n1, n2⟩ := r6 hd
        refine ⟨List.nodup_cons.2 ⟨fun hg => (n2 g hg).2.2.1 hob, n1⟩, fun b hb => ?_⟩
        rcases List.mem_cons.1 hb with rfl | hb
        · exact ⟨(r2 _ hob).1, ⟨cur, e, hh⟩, r, List.mem_singleton.2 rfl, (r2 _ hob).2⟩
        · obtain ⟨m1, m2, m3, m4⟩ := n2 b hb
          exact ⟨m1, m4, r, List.mem_singleton.2 rfl, m2⟩
theorem flat_leaf : ∀ {t : Ty} {x : den t} {v : Value} {G : List Nat}, Rep w v (leafT t x) G → (∀ t', t ≠ .sl t') → G = []
  | .int _, _, _, _, h, _ => by cases h; rfl
  | .bool, _, _, _, h, _ => by cases h; rfl
  | .str, _, _, _, h, _ => by cases h; rfl
  | .sl t, _, _, _, h, hn => absurd rfl (hn t)
  | .pair _ _, _, _, _, h, _ => by cases h
theorem mvC_sound (h : SimC M src c ow f a w) {t : Ty} {x : C} {y : den t} {v : Value} {ids : List Nat} {dp : Bool} (hm : mvC f x = some (ids, dp)) (hd : f.data t x = some y) (hv : RelC c ow w (okB src c ow f.ob) v x) : ∃ G, Rep w v (leafT t y) G ∧ Taken M c ow w (okB src c ow f.ob) ids dp G := by
  unfold F.data at hd
  split at hd
  · rename_i t' z
    obtain ⟨rfl, rfl⟩ := castTy_some hd
    obtain ⟨G, hr, hG⟩ := hv
    cases t' with
    | sl t' =>
      injection hm with hm; injection hm with e1 e2; subst e1 e2
      exact ⟨G, hr, fun b hb => .inl (hG b hb), fun h => by cases h⟩
    | _ =>
      injection hm with hm; injection hm with e1 e2; subst e1 e2
      have hG0 := flat_leaf hr (by simp)
      subst hG0
      exact ⟨[], hr, by simp, fun _ => by simp⟩
  · split at hd
    · injection hm with hm; injection hm with e1 e2; subst e1 e2
      injection hd with hd; subst hd
      have hv : v = .slice none 0 0 := hv
      subst hv
      exact ⟨[], .nil (Nat.zero_le _), by simp, fun _ => by simp⟩
    · cases hd
  · rename_i r
    have hv : v = c.rv r := hv
    subst hv
    simp only [mvC] at hm
    split at hd
    · rename_i e k t' l deep hrow
      obtain ⟨rfl, rfl⟩ := castTy_some hd
      rw [hrow] at hm
      injection hm with hm; injection hm with e1 e2; subst e1 e2
      exact row_taken h hrow
    · rename_i k t' l hrow
      rw [hrow] at hm
      cases hm
    · cases hd
  · cases hm
  · cases hd
theorem mvC_ids {x : C} {ids : List Nat} {dp : Bool} (hm : mvC f x = some (ids, dp)) : ∀ r ∈ ids, ∃ n e k, ∃ (t : Ty) (l : List (den t)), ∃ deep, (r, n, O.row e k t l deep) ∈ f.ob := by
  cases x with
  | row r =>
    simp only [mvC] at hm
    split at hm
    · rename_i e k t l deep hrow
      injection hm with hm; injection hm with e1 e2; subst e1 e2
      obtain ⟨n, hm⟩ := obj_mem hrow
      intro r' hr'
      rw [List.mem_singleton.1 hr']
      exact ⟨n, e, k, t, l, deep, hm⟩
    · cases hm
  | v t y => cases t <;> (injection hm with hm; injection hm with e1 e2; subst e1; simp)
  | nil => injection hm with hm; injection hm with e1 e2; subst e1; simp
  | ptr _ _ => cases hm
  | ep _ _ _ => cases hm
  | rp _ _ _ _ => cases hm
  | sub _ _ _ _ _ _ => cases hm
  | ip _ _ _ _ _ _ _ => cases hm
  | clo _ _ => cases hm
  | any => cases hm
theorem mvCs_ids : ∀ {cs : List C} {ids : List Nat} {dp : Bool}, mvCs f cs = some (ids, dp) → ∀ r ∈ ids, ∃ n e k, ∃ (t : Ty) (l : List (den t)), ∃ deep, (r, n, O.row e k t l deep) ∈ f.ob := by
  intro cs
  induction cs with
  | nil => intro ids dp hm; injection hm with hm; injection hm with e1 e2; subst e1; simp
  | cons x xs ih =>
    intro ids dp hm
    unfold mvCs at hm
    split at hm
    · rename_i i1 d1 i2 d2 h1 h2
      injection hm with hm; injection hm with e1 e2; subst e1
      intro r hr
      exact (List.mem_append.1 hr).elim (mvC_ids h1 r) (ih h2 r)
    · cases hm
theorem mvCs_app : ∀ {xs ys : List C} {ids : List Nat} {dp : Bool}, mvCs f (xs ++ ys) = some (ids, dp) → ∃ i1 d1 i2 d2, mvCs f xs = some (i1, d1) ∧ mvCs f ys = some (i2, d2) ∧ ids = i1 ++ i2 ∧ dp = (d1 && d2) := by
  intro xs
  induction xs with
  | nil => intro ys ids dp h; exact ⟨[], true, ids, dp, rfl, h, rfl, by simp⟩
  | cons x xs ih =>
    intro ys ids dp h
    rw [List.cons_append] at h
    unfold mvCs at h
    split at h
    · rename_i i1 d1 i2 d2 h1 h2
      injection h with h; injection h with e1 e2; subst e1 e2
      obtain ⟨j1, e1, j2, e2, g1, g2, rfl, rfl⟩ := ih h2
      exact ⟨i1 ++ j1, d1 && e1, j2, e2, by unfold mvCs; rw [h1, g1], g2, by simp, by simp [Bool.and_assoc]⟩
    · cases h
theorem map_pair {α β : Type} {x : Option α} {cs r : β} {y : α} (h : x.map (fun z => (z, cs)) = some (y, r)) : x = some y ∧ cs = r := by
  obtain ⟨z, hz, he⟩ := Option.map_eq_some_iff.1 h
  injection he with e1 e2
  subst e1 e2
  exact ⟨hz, rfl⟩
theorem dataL_more : ∀ {t : Ty} {us r : List C} {y : den t} (rest : List C), f.dataL t us = some (y, r) → f.dataL t (us ++ rest) = some (y, r ++ rest)
  | .int k, [], r, y, rest, h => by cases h
  | .bool, [], r, y, rest, h => by cases h
  | .str, [], r, y, rest, h => by cases h
  | .sl t, [], r, y, rest, h => by cases h
  | .int k, c :: cs, r, y, rest, h => by obtain ⟨h1, rfl⟩ := map_pair h; show (f.data _ c).map (fun z => (z, cs ++ rest)) = _; rw [h1]; rfl
  | .bool, c :: cs, r, y, rest, h => by obtain ⟨h1, rfl⟩ := map_pair h; show (f.data _ c).map (fun z => (z, cs ++ rest)) = _; rw [h1]; rfl
  | .str, c :: cs, r, y, rest, h => by obtain ⟨h1, rfl⟩ := map_pair h; show (f.data _ c).map (fun z => (z, cs ++ rest)) = _; rw [h1]; rfl
  | .sl t, c :: cs, r, y, rest, h => by obtain ⟨h1, rfl⟩ := map_pair h; show (f.data _ c).map (fun z => (z, cs ++ rest)) = _; rw [h1]; rfl
  | .pair a b, us, r, y, rest, h => by
    simp only [F.dataL] at h ⊢
    split at h
    · rename_i x cs1 h1
      split at h
      · rename_i z cs2 h2
        injection h with h; injection h with e1 e2; subst e1 e2
        rw [dataL_more rest h1]
        simp only
        rw [dataL_more rest h2]
      · cases h
    · cases h
/-- Cells as data: which of them are used up. -/
theorem dataL_app : ∀ {t : Ty} {cs rest : List C} {y : den t}, f.dataL t cs = some (y, rest) → ∃ us, cs = us ++ rest ∧ us.length = tyLen t ∧ f.dataL t us = some (y, [])
  | .int k, [], rest, y, h => by cases h
  | .bool, [], rest, y, h => by cases h
  | .str, [], rest, y, h => by cases h
  | .sl t, [], rest, y, h => by cases h
  | .int k, c :: cs, rest, y, h => by obtain ⟨h1, rfl⟩ := map_pair h; exact ⟨[c], rfl, rfl, by show (f.data _ c).map (fun z => (z, [])) = _; rw [h1]; rfl⟩
  | .bool, c :: cs, rest, y, h => by obtain ⟨h1, rfl⟩ := map_pair h; exact ⟨[c], rfl, rfl, by show (f.data _ c).map (fun z => (z, [])) = _; rw [h1]; rfl⟩
  | .str, c :: cs, rest, y, h => by obtain ⟨h1, rfl⟩ := map_pair h; exact ⟨[c], rfl, rfl, by show (f.data _ c).map (fun z => (z, [])) = _; rw [h1]; rfl⟩
  | .sl t, c :: cs, rest, y, h => by obtain ⟨h1, rfl⟩ := map_pair h; exact ⟨[c], rfl, rfl, by show (f.data _ c).map (fun z => (z, [])) = _; rw [h1]; rfl⟩
  | .pair a b, cs, rest, y, h => by
    simp only [F.dataL] at h
    split at h
    · rename_i x cs1 h1
      split at h
      · rename_i z cs2 h2
        injection h with h; injection h with e1 e2; subst e1 e2
        obtain ⟨u1, rfl, l1, g1⟩ := dataL_app h1
        obtain ⟨u2, rfl, l2, g2⟩ := dataL_app h2
        refine ⟨u1 ++ u2, by simp, by simp [tyLen, l1, l2], ?_⟩
        simp only [F.dataL]
        rw [dataL_more u2 g1]
        simp only [List.nil_append]
        rw [g2]
      · cases h
    · cases h
theorem dataL_pair {a b : Ty} {cs : List C} {y : den (.pair a b)} (h : f.dataL (.pair a b) cs = some (y, [])) : ∃ u1 u2, cs = u1 ++ u2 ∧ u1.length = tyLen a ∧ f.dataL a u1 = some (y.1, []) ∧ f.dataL b u2 = some (y.2, []) := by
  simp only [F.dataL] at h
  split at h
  · rename_i x cs1 h1
    split at h
    · rename_i z cs2 h2
      injection h with h; injection h with e1 e2; subst e1 e2
      obtain ⟨u1, rfl, l1, g1⟩ := dataL_app h1
      exact ⟨u1, cs1, rfl, l1, g1, h2⟩
    · cases h
  · cases h
theorem dataL_one {t : Ty} (ht : ∀ a b, t ≠ .pair a b) {cs : List C} {y : den t} (h : f.dataL t cs = some (y, [])) : ∃ x, cs = [x] ∧ f.data t x = some y := by
  cases t with
  | pair a b => exact absurd rfl (ht a b)
  | _ =>
    cases cs with
    | nil => cases h
    | cons x xs => obtain ⟨h1, h2⟩ := map_pair h; subst h2; exact ⟨x, rfl, h1⟩
theorem cells_leaf {t : Ty} (ht : ∀ a b, t ≠ .pair a b) (x : den t) : cells t x = [leafT t x] := by
  cases t with
  | pair a b => exact absurd rfl (ht a b)
  | _ => rfl
/-- Cells that are moved, as data with their blocks. -/
theorem mvL_sound (h : SimC M src c ow f a w) : ∀ {t : Ty} {cs : List C} {y : den t} {vs : List Value} {ids : List Nat} {dp : Bool}, f.dataL t cs = some (y, []) → mvCs f cs = some (ids, dp) → All2 (RelC c ow w (okB src c ow f.ob)) vs cs → ids.Nodup → ∃ G, RepL w vs (cells t y) G ∧ Taken M c ow w (okB src c ow f.ob) ids dp G := by
  have leaf : ∀ {t : Ty}, (∀ a b, t ≠ .pair a b) → ∀ {cs : List C} {y : den t} {vs : List Value} {ids : List Nat} {dp : Bool}, f.dataL t cs = some (y, []) → mvCs f cs = some (ids, dp) → All2 (RelC c ow w (okB src c ow f.ob)) vs cs → ∃ G, RepL w vs (cells t y) G ∧ Taken M c ow w (okB src c ow f.ob) ids dp G := by
    intro t ht cs y vs ids dp hd hm hv
    obtain ⟨x, rfl, hx⟩ := dataL_one ht hd
    simp only [mvCs] at hm
    split at hm
    · rename_i i1 d1 i2 d2 h1 h2
      injection hm with hm; injection hm with e1 e2; subst e1 e2
      injection h2 with h2; injection h2 with e1 e2; subst e1 e2
      cases hv with
      | cons hr hrs =>
        cases hrs
        obtain ⟨G, g1, g2⟩ := mvC_sound h h1 hx hr
        rw [cells_leaf ht]
        exact ⟨G ++ [], .cons g1 .nil, by simpa using g2⟩
    · cases hm
  intro t
  induction t with
  | pair a b iha ihb =>
    intro cs y vs ids dp hd hm hv hn
    obtain ⟨u1, u2, rfl, l1, d1, d2⟩ := dataL_pair hd
    obtain ⟨i1, e1, i2, e2, m1, m2, rfl, rfl⟩ := mvCs_app hm
    have hv1 := hv.take u1.length
    have hv2 := hv.drop u1.length
    rw [List.take_left] at hv1
    rw [List.drop_left] at hv2
    obtain ⟨G, g1, g2⟩ := iha d1 m1 hv1 (List.nodup_append.1 hn).1
    obtain ⟨H, g3, g4⟩ := ihb d2 m2 hv2 (List.nodup_append.1 hn).2.1
    refine ⟨G ++ H, ?_, g2.append g4 hn⟩
    have := g1.append g3
    rw [List.take_append_drop] at this
    exact this
  | _ => intro cs y vs ids dp hd hm hv _; exact leaf (by simp) hd hm hv
theorem mvCs_solid : ∀ {cs : List C} {ids : List Nat} {dp : Bool}, mvCs f cs = some (ids, dp) → cs.all C.solid = true ∧ cs.any C.isSub = false := by
  intro cs
  induction cs with
  | nil => intros; exact ⟨rfl, rfl⟩
  | cons x xs ih =>
    intro ids dp h
    unfold mvCs at h
    split at h
    · rename_i i1 d1 i2 d2 h1 h2
      obtain ⟨g1, g2⟩ := ih h2
      refine ⟨?_, ?_⟩
      · simp only [List.all_cons, Bool.and_eq_true]
        exact ⟨by cases x <;> first | rfl | (cases h1; done), g1⟩
      · simp only [List.any_cons, Bool.or_eq_false_iff]
        exact ⟨by cases x <;> first | rfl | (cases h1; done), g2⟩
    · cases h
/-- Behind the freezing, what was taken up is let, and owned by rows that are no more. -/
theorem Taken.frozen (h : SimC M src c ow f a w) (hsrc : ∀ b, M b → src b) {ids all : List Nat} {dp : Bool} {G : List Nat} (hsub : ∀ r ∈ ids, r ∈ all) (hids : ∀ r ∈ ids, ∃ n e k, ∃ (t : Ty) (l : List (den t)), ∃ deep, (r, n, O.row e k t l deep) ∈ f.ob) (ht : Taken M c ow w (okB src c ow f.ob) ids dp G) :
    (∀ b ∈ G, okB src c ow (f.frzAll all).ob b) ∧ (dp = true → G.Nodup ∧ ∀ b ∈ G, M b ∧ Unf w b ∧ ∃ r, ow b = some r ∧ ∀ n x, (r, n, x) ∉ (f.frzAll all).ob) := by
  refine ⟨fun b hb => ?_, fun hd => ?_⟩
  · rcases ht.1 b hb with hok | ⟨r, hr, he⟩
    · exact ⟨hok.1, fun hl => hok.2 (live_frzAll hl)⟩
    · obtain ⟨n, e, k, t, l, deep, hm⟩ := hids r hr
      exact (frzAll_own h hsrc (hsub r hr) hm).1 b he
  · obtain ⟨n1, n2⟩ := ht.2 hd
    refine ⟨n1, fun b hb => ?_⟩
    obtain ⟨m1, m2, r, hr, he⟩ := n2 b hb
    obtain ⟨n, e, k, t, l, deep, hm⟩ := hids r hr
    exact ⟨m1, m2, r, he, (frzAll_own h hsrc (hsub r hr) hm).2⟩
end
end Go.V
set_option linter.unusedVariables false
set_option linter.unusedSectionVars false
namespace Go.V
open Go.Ab Go.RowKit

theorem BelowM.alloc {M : Nat → Prop} {a w : World} (h : BelowM M a w) (o : Obj) : BelowM M a (w.alloc o) :=
  h.trans ⟨rfl, rfl, rfl, by simp, fun k hk _ => Below.heap_alloc _ _ _ hk⟩
theorem BelowM.grown {M : Nat → Prop} {a w w' : World} {row : Option Nat} (h : BelowM M a w) (hg : w.grownBy w' row) (hr : ∀ k, row = some k → M k) : BelowM M a w' :=
  h.trans ⟨hg.os, hg.tape, hg.output, hg.size, fun k hk hm => hg.block k hk (fun e => hm (hr k e.symm))⟩

/-- The block that a slice or a pointer leads to. -/
def blkOf : Value → Option Nat
  | .slice (some ad) _ _ => some ad.block
  | .pointer (some ad) => some ad.block
  | _ => none
/-- What an operation has done, told without frames. -/
structure Rec (E : List Con) (o : Oper) (a : Act) (w : World) (a' : Act) (w' : World) : Prop where
  stays : writes E o.op = false → Stays w w'
  put : ∃ u, a' = a.put o.dst u ∧ (allocs o.op = true → ∀ b, blkOf u = some b → w.heap.size ≤ b) ∧ (isApp o.op = true → ∀ x, appBase o.op = some x → ∀ b, blkOf u = some b → w.heap.size ≤ b ∨ blkOf (a.eval x) = some b)
  app : ∀ x, appBase o.op = some x → ∀ b, b < w.heap.size → (∀ b', blkOf (a.eval x) = some b' → b ≠ b') → w'.heap[b]? = w.heap[b]?
  size : w.heap.size ≤ w'.heap.size
theorem rec_new {E : List Con} {o : Oper} {a : Act} {w w' : World} {d : Nat} {v : Value} (hdst : o.dst = some d) (hst : Stays w w') (hsz : w.heap.size ≤ w'.heap.size) (hna : appBase o.op = none) (hal : allocs o.op = true → ∀ b, blkOf v = some b → w.heap.size ≤ b) : Rec E o a w (a.put (some d) v) w' :=
  ⟨fun _ => hst, ⟨v, by rw [hdst], hal, fun _ x hx => by rw [hna] at hx; cases hx⟩, (fun x hx => by rw [hna] at hx; cases hx), hsz⟩
theorem rec_store {E : List Con} {o : Oper} {a : Act} {w w' : World} {t : TypeId} {p x : Operand} (hop : o.op = .store t p x) (hdst : o.dst = none) (hsz : w.heap.size ≤ w'.heap.size) (hb : ∀ b, b < w.heap.size → (∀ b', blkOf (a.eval p) = some b' → b ≠ b') → w'.heap[b]? = w.heap[b]?) : Rec E o a w a w' :=
  ⟨(fun hw => by rw [hop] at hw; cases hw), ⟨undef, by rw [hdst]; rfl, (fun ha => by rw [hop] at ha; cases ha), fun ha => by rw [hop] at ha; cases ha⟩, (fun y hy => by rw [hop] at hy; injection hy with hy; subst hy; exact hb), hsz⟩
/-- The operation brings the frame to one that K takes. -/
def Goes {R : Type} (X : Ctx) (E : List Con) (o : Oper) (a : Act) (w : World) (f : F) (K : F → Option R) (r : R) : Prop :=
  ∃ g, K g = some r ∧ Ext f g ∧ ∀ (Kp : Act → World → Prop) (Q : Exit → Act → World → Prop), (∀ a' w', At X g a' w' → Rec E o a w a' w' → Kp a' w') → o.wp X.P a w Kp Q

section
variable {X : Ctx} {E : List Con} {f : F} {a : Act} {w : World} {o : Oper} {R : Type} {K : F → Option R} {r : R}

theorem At.hM (h : At X f a w) : X.M w.heap.size := X.hM _ h.2.1.size
theorem solid_sub {cs : List C} (h : cs.any C.isSub = false) : ∀ x ∈ cs, x.isSub = false := fun x hx => by simpa using List.any_eq_false.1 h x hx
theorem get_sub (hsf : f.subFree) {x : Operand} {s : S} (h : f.get x = some s) : s.isSub = false := by
  cases x with
  | tmp t => obtain ⟨n, hm⟩ := look_mem h; exact hsf.1 _ _ _ hm
  | const v =>
    simp only [F.get] at h
    unfold constS at h
    split at h
    · split at h
      · injection h with h; subst h; rfl
      · cases h
    · injection h with h; subst h; rfl
    · split at h
      · injection h with h; subst h; rfl
      · cases h
    · injection h with h; subst h; rfl
    · injection h with h; subst h; rfl
    · cases h
  | global g => cases h
  | func f => cases h
theorem cells_sub {y : A} (h : (S.val y).isSub = false) : ∀ x ∈ y.cells, x.isSub = false := by
  cases y with
  | one c => intro x hx; rw [List.mem_singleton.1 hx]; exact h
  | agg cs => exact solid_sub h

theorem zC_sub (v : Value) : (zC v).isSub = false := by
  unfold zC
  repeat' split
  all_goals rfl

theorem alloc_goes (h : At X f a w) (hsf : f.subFree) {t : TypeId} {d : Nat} {i : TypeInfo} {z : Value} (hop : o.op = .alloc t) (hdst : o.dst = some d) (hd : inFrame X.n o.dst = true) (hi : X.P.info? t = some i) (hz : i.zero = some z) (hz1 : z.cells.toList.all Value.oneCell' = true) (hp : pinned d = false)
    (hk : K (f.newOb d (.box ((z.cells.toList.map zC).map (scrubC d))) (.ptr d 0)) = some r) : Goes X E o a w f K r := by
  refine ⟨_, hk, Ext.newOb f d _ _, fun Kp Q hK => ?_⟩
  obtain ⟨⟨c, ow, hs, hpin⟩, hb, hn⟩ := id h
  have hlt : d < a.tmps.size := by rw [hn]; rw [hdst] at hd; exact inFrame_lt hd
  obtain ⟨ow', h1⟩ := newBox_sound hs hsf hlt t (zCs_sound (c := c) (ow := ow) (w := w) (ok := okB X.src c ow f.ob) z.cells.toList hz1) (fun x hx => by obtain ⟨v, _, rfl⟩ := List.mem_map.1 hx; exact zC_sub v) h.hM
  unfold Oper.wp
  have hrun : (execOp a.eval o).run X.P w = .ok (.value (.pointer (some ⟨w.heap.size, 0, none⟩))) (w.alloc (.cells z.cells t (0, 0))) := by
    simp [execOp, hop, Instr.alloc, zeroValue, typeInfo, hi, hz, run_newVar]
  rw [hrun]
  simp only [Oper.upon, hdst]
  refine hK _ _ ⟨⟨_, ow', by simpa using h1, hpin.loc hp _⟩, hb.alloc _, by rw [size_put]; exact hn⟩ (rec_new hdst (fun b hb' => Below.heap_alloc _ _ _ hb') (by simp) (by rw [hop]; rfl) (fun _ b hb0 => by injection hb0 with hb0; exact Nat.le_of_eq hb0))
theorem box_goes (h : At X f a w) (hsf : f.subFree) {t : TypeId} {x : Operand} {d : Nat} {y : A} (hop : o.op = .box t x) (hdst : o.dst = some d) (hd : inFrame X.n o.dst = true) (hx : f.get x = some (.val y)) (hsol : y.cells.all C.solid = true) (hp : pinned d = false)
    (hk : K (f.newOb d (.box (y.cells.map (scrubC d))) (.ptr d 0)) = some r) : Goes X E o a w f K r := by
  refine ⟨_, hk, Ext.newOb f d _ _, fun Kp Q hK => ?_⟩
  obtain ⟨⟨c, ow, hs, hpin⟩, hb, hn⟩ := id h
  have hlt : d < a.tmps.size := by rw [hn]; rw [hdst] at hd; exact inFrame_lt hd
  obtain ⟨vs, hvs, hall, _⟩ := solid_cells hs.rvs (hs.get hx) hsol
  obtain ⟨ow', h1⟩ := newBox_sound hs hsf hlt t hall (cells_sub (get_sub hsf hx)) h.hM
  unfold Oper.wp
  have hrun : (execOp a.eval o).run X.P w = .ok (.value (.pointer (some ⟨w.heap.size, 0, none⟩))) (w.alloc (.cells vs.toArray t (0, 0))) := by
    simp [execOp, hop, Instr.box, run_newVar, hvs]
  rw [hrun]
  simp only [Oper.upon, hdst]
  exact hK _ _ ⟨⟨_, ow', h1, hpin.loc hp _⟩, hb.alloc _, by rw [size_put]; exact hn⟩ (rec_new hdst (fun b hb' => Below.heap_alloc _ _ _ hb') (by simp) (by rw [hop]; rfl) (fun _ b hb0 => by injection hb0 with hb0; exact Nat.le_of_eq hb0))

/-! ### a store -/
theorem mem_setOb {i : Nat} {x : O} {o' n : Nat} {y : O} (h : (o', n, y) ∈ (f.setOb i x).ob) : (o' ≠ i ∧ (o', n, y) ∈ f.ob) ∨ (o' = i ∧ y = x) := by
  simp only [F.setOb, List.mem_map] at h
  obtain ⟨⟨o1, m, z⟩, hz, he⟩ := h
  split at he
  · injection he with e1 he; injection he with _ e2; exact .inr ⟨e1.symm, e2.symm⟩
  · rename_i hne; injection he with e1 he; injection he with e2 e3; subst e1 e2 e3; exact .inl ⟨hne, hz⟩
theorem Ext.setOb (f : F) (i : Nat) (x : O) : Ext f (f.setOb i x) := by
  refine ⟨Nat.le_succ _, fun _ _ _ h _ => h, fun o n y hm hn => ?_⟩
  simp only [F.setOb, List.mem_map] at hm
  obtain ⟨⟨o1, m, z⟩, hz, he⟩ := hm
  split at he
  · injection he with _ he; injection he with e _; omega
  · rw [← he]; exact hz
/-- Object i turns, in its own blocks alone. -/
theorem SimC.turn {M src : Nat → Prop} {c : Cx} {ow ow' : Nat → Option Nat} (h : SimC M src c ow f a w) (hsf : f.subFree) {i n : Nat} {x y : O} {w' : World} (hx : (i, n, x) ∈ f.ob) (hs : w.heap.size ≤ w'.heap.size) (hb : ∀ b, b < w.heap.size → ¬ x.blk c ow i b → w'.heap[b]? = w.heap[b]?)
    (hbl : ∀ b, b < w.heap.size → y.blk c ow' i b → x.blk c ow i b) (how : ∀ b o, b < w.heap.size → o ≠ i → (∃ m z, (o, m, z) ∈ f.ob) → (ow' b = some o ↔ ow b = some o))
    (hy : ∀ ok', (∀ b, b < w.heap.size → okB src c ow f.ob b → ok' b) → (ok' = okB src c ow' (f.setOb i y).ob) → ObOk M c ow' w' ok' i y) : SimC M src c ow' (f.setOb i y) a w' := by
  have hl : ∀ b, b < w.heap.size → live c ow' (f.setOb i y).ob b → live c ow f.ob b := by
    rintro b hlt ⟨o, m, z, hm, hz⟩
    rcases mem_setOb hm with ⟨hne, hm⟩ | ⟨rfl, rfl⟩
    · refine ⟨o, m, z, hm, ?_⟩
      cases z with
      | box _ => exact hz
      | row _ _ _ _ _ => exact hz
      | win _ _ _ => exact (how b o hlt hne ⟨m, _, hm⟩).1 hz
    · exact ⟨o, n, x, hx, hbl b hlt hz⟩
  refine h.step hsf hs (fun b hlt hnl => hb b hlt fun hxb => hnl ⟨i, n, x, hx, hxb⟩) hl (fun o m z hm => ?_) (fun o m z m' z' hm hm' => ?_)
  · rcases mem_setOb hm with ⟨hne, hm⟩ | ⟨rfl, rfl⟩
    · exact .inl ⟨⟨m, hm⟩, fun b hlt hown hzb => hb b hlt fun hxb => hne (h.apart hm hx hzb hxb), fun b hlt hown => (how b o hlt hne ⟨m, z, hm⟩).2 hown⟩
    · exact .inr (hy _ (fun b hlt hok => ⟨hok.1, fun hl' => hok.2 (hl b hlt hl')⟩) rfl)
  · rcases mem_setOb hm with ⟨hne, hm⟩ | ⟨e1, rfl⟩
    · rcases mem_setOb hm' with ⟨_, hm'⟩ | ⟨e2, _⟩
      · exact h.uniq _ _ _ _ _ hm hm'
      · exact absurd e2 hne
    · rcases mem_setOb hm' with ⟨hne, _⟩ | ⟨_, rfl⟩
      · exact absurd e1 hne
      · rfl

theorem storeBox_goes (h : At X f a w) (hsf : f.subFree) {t : TypeId} {p x : Operand} {i off : Nat} {y : A} {inf : TypeInfo} {cs : List C} (hop : o.op = .store t p x) (hdst : o.dst = none) (hp : f.getC p = some (.ptr i off)) (hx : f.get x = some (.val y)) (hi : X.P.info? t = some inf) (hbx : f.obj i = some (.box cs))
    (c1 : y.cells.length = inf.size) (c2 : off + y.cells.length ≤ cs.length) (c3 : y.cells.all C.solid = true) (hk : K (f.setOb i (.box (sp cs off y.cells))) = some r) : Goes X E o a w f K r := by
  refine ⟨_, hk, Ext.setOb f i _, fun Kp Q hK => ?_⟩
  obtain ⟨⟨c, ow, hs, hpin⟩, hb, hn⟩ := id h
  have hpv : a.eval p = .pointer (some ⟨c.loc i, off, none⟩) := hs.getC hp
  obtain ⟨us, hvs, hall, hone⟩ := solid_cells hs.rvs (hs.get hx) c3
  obtain ⟨n, hmem⟩ := obj_mem hbx
  have hbxo : BoxOk X.M c ow w (okB X.src c ow f.ob) i cs := hs.ob _ _ _ hmem
  have hlt := hbxo.lt
  obtain ⟨b1, b2, vs, ty, hh, ha⟩ := hbxo
  have hlen : us.length = y.cells.length := hall.length
  have hvl : vs.length = cs.length := ha.length
  have hrun := run_storeCells_at (P := X.P) (c.loc i) off ty us 0 vs.toArray w hh (by simp; omega) hone
  simp only [Nat.add_zero] at hrun
  have hother : ∀ b, b ≠ c.loc i → (w.setRow (c.loc i) (vs.take off ++ us ++ vs.drop (off + us.length)).toArray).heap[b]? = w.heap[b]? := by
    intro b hne
    simp only [World.setRow, Array.getElem?_modify]
    rw [if_neg (Ne.symm hne)]
  have hsz : (w.setRow (c.loc i) (vs.take off ++ us ++ vs.drop (off + us.length)).toArray).heap.size = w.heap.size := by simp [World.setRow]
  have h1 := hs.turn hsf (ow' := ow) (y := .box (sp cs off y.cells)) (w' := w.setRow (c.loc i) (vs.take off ++ us ++ vs.drop (off + us.length)).toArray) hmem (by omega) (fun b hlt hnb => hother b fun e => hnb e.symm) (fun b _ hy => hy) (fun b o _ _ _ => Iff.rfl) (fun ok' hok' hokeq => by
    refine ⟨b1, b2, _, ty, setRow_heap w _ _ _ ty _ hh, ?_⟩
    have hal := ha.sp hall off
    unfold sp at hal ⊢
    have hsub1 := hsf.2 _ _ _ hmem
    have hsub2 := cells_sub (get_sub hsf hx)
    simp only [O.isSub, List.any_eq_false] at hsub1
    refine hal.mono fun u z hz hr => hr.keep ?_ ⟨by omega, fun b hlt' hok => hother b fun e => hok.2 ⟨i, n, _, hmem, e.symm⟩, hok'⟩
    rcases List.mem_append.1 hz with hz | hz
    · rcases List.mem_append.1 hz with hz | hz
      · simpa using hsub1 z (List.mem_of_mem_take hz)
      · exact hsub2 z hz
    · simpa using hsub1 z (List.mem_of_mem_drop hz))
  unfold Oper.wp
  have hlen' : us.length = inf.size := by omega
  have hrun' : (execOp a.eval o).run X.P w = .ok .skip (w.setRow (c.loc i) (vs.take off ++ us ++ vs.drop (off + us.length)).toArray) := by
    simp [execOp, hop, Instr.storeAt, hpv, Instr.sureAddr, storeVar, run_sizeOf hi, hvs, hlen', hrun]
  rw [hrun']
  simp only [Oper.upon, hdst]
  exact hK _ _ ⟨⟨c, ow, h1, hpin⟩, hb.trans ⟨rfl, rfl, rfl, by omega, fun k hk hm => hother k fun e => hm (e ▸ b1)⟩, hn⟩ (rec_store hop hdst (by omega) fun b _ hne => hother b (hne _ (by rw [hpv]; rfl)))
end
end Go.V
set_option linter.unusedVariables false
set_option linter.unusedSectionVars false
namespace Go.V
open Go.Ab Go.RowKit

section
variable {X : Ctx} {E : List Con} {f : F} {a : Act} {w : World} {o : Oper} {R : Type} {K : F → Option R} {r : R}

theorem mem_frzAll_row {ids : List Nat} {q n e k : Nat} {t : Ty} {l : List (den t)} {deep : Bool} (hr : ids.contains q = false) (hm : (q, n, O.row e k t l deep) ∈ f.ob) : ∃ m, (q, m, O.row e k t l deep) ∈ (f.frzAll ids).ob := by
  induction ids generalizing f n with
  | nil => exact ⟨n, hm⟩
  | cons i is ih =>
    simp only [List.contains_cons, Bool.or_eq_false_iff] at hr
    have hx : ∃ m, (q, m, O.row e k t l deep) ∈ (f.frzRow i).ob := by
      unfold F.frzRow
      split
      · refine ⟨n, ?_⟩
        simp only [List.mem_map, List.mem_filter]
        exact ⟨(q, n, .row e k t l deep), ⟨hm, by simpa using hr.1⟩, by simp [O.names]⟩
      · exact ⟨n, hm⟩
    obtain ⟨m, hm'⟩ := hx
    exact ih (f := f.frzRow i) hr.2 hm'
theorem leafT_map {t : Ty} {l : List (den t)} (i : Nat) (z : den t) : (l.set i z).map (cells t) = (l.map (cells t)).set i (cells t z) := by rw [List.map_set]

/-- An element of a row is written: its cells from off on. -/
theorem storeRow_sound {M src : Nat → Prop} {c : Cx} {ow : Nat → Option Nat} {P : Program} (h : SimC M src c ow f a w) (hsf : f.subFree) {q n e k : Nat} {t : Ty} {l : List (den t)} {deep : Bool} (hr : (q, n, .row e k t l deep) ∈ f.ob) {i off : Nat} {z : den t} {ts : List T} {us : List Value} {G : List Nat} {dp : Bool} (hi : i < l.length) (ho : off + ts.length ≤ k)
    (hz : (cells t z) = sp (cells t l[i]) off ts) (hu : RepL w us ts G) (hG : ∀ b ∈ G, okB src c ow f.ob b) (hdp : dp = true → G.Nodup ∧ ∀ b ∈ G, M b ∧ Unf w b ∧ ∃ r', ow b = some r' ∧ ∀ n x, (r', n, x) ∉ f.ob) {g b0 nn cap : Nat} (hrv : c.rv q = .slice (some ⟨g, b0, none⟩) nn cap) :
    ∃ w' ow', (storeCells ⟨g, b0 + (i * k + off), none⟩ us).run P w = .ok () w' ∧ SimC M src c ow' (f.setOb q (.row e k t (l.set i z) (deep && dp))) a w' ∧ BelowM M w w' ∧ ∀ b, b ≠ g → w'.heap[b]? = w.heap[b]? := by
  obtain ⟨r0, r1, r2, xs, F1, r3, r4, r5, r6⟩ := h.ob _ _ _ hr
  have hkk : ∀ y ∈ l.map (cells t), y.length = k := fun y hy => by obtain ⟨y', _, rfl⟩ := List.mem_map.1 hy; rw [cells_len, r1]
  have hob : (c.rv q).ownBlock = some g := by simp [hrv, Value.ownBlock]
  have hglt := (ownsRow_lt r3 hob).1
  obtain ⟨hMg, howg⟩ := r2 g hob
  have r3' := r3
  obtain ⟨hxl, hform⟩ := r3
  rcases hform with ⟨hn, _⟩ | ⟨g', cap', cur, hrv', _, hh, h1, h2, h3, h4⟩
  · rw [hrv] at hn; cases hn
  · rw [hrv] at hrv'
    injection hrv' with e1 e2 e3
    injection e1 with e1
    injection e1 with e1 e0 _
    subst e1 e0 e2 e3
    rw [Nat.zero_add]
    have hul : us.length = ts.length := hu.length
    have hik : i * k + k ≤ l.length * k := by rw [← Nat.succ_mul]; exact Nat.mul_le_mul_right _ hi
    have hnc : l.length * k ≤ cap * k := Nat.mul_le_mul_right _ h1
    have s1 : ((l.set i z).map (cells t)).flatten = sp (l.map (cells t)).flatten (i * k + off) ts := by
      rw [leafT_map, flatten_set hkk (by simpa using hi) (by rw [cells_len, r1]), hz]
      refine sp_sp (flatten_get hkk (by simp [hi])).symm ?_ ho
      rw [flatten_length hkk, List.length_map]
      exact hik
    have hrun := run_storeCells_at (P := P) g (i * k + off) e us 0 cur w hh (by omega) (repL_one hu)
    simp only [Nat.add_zero] at hrun
    have hother : ∀ b, b ≠ g → (w.setRow g (cur.toList.take (i * k + off) ++ us ++ cur.toList.drop (i * k + off + us.length)).toArray).heap[b]? = w.heap[b]? := by
      intro b hne
      simp only [World.setRow, Array.getElem?_modify]
      rw [if_neg (Ne.symm hne)]
    have hsz : (w.setRow g (cur.toList.take (i * k + off) ++ us ++ cur.toList.drop (i * k + off + us.length)).toArray).heap.size = w.heap.size := by simp [World.setRow]
    have hokb : ∀ b, okB src c ow f.ob b → b ≠ g := fun b hok e => hok.2 ⟨q, n, _, hr, e ▸ hob⟩
    refine ⟨_, fun b => if dp = true ∧ b ∈ G then some q else ow b, hrun, ?_, ⟨rfl, rfl, rfl, by omega, fun b hlt hnm => hother b fun e => hnm (e ▸ hMg)⟩, hother⟩
    refine h.turn hsf (y := .row e k t (l.set i z) (deep && dp)) hr (by omega) (fun b hlt hnb => hother b fun e => hnb (by rw [e]; exact hob)) (fun b _ hy => hy) (fun b o' hlt hne hm => ?_) (fun ok' hok' _ => ?_)
    · obtain ⟨m, x, hm⟩ := hm
      show (if dp = true ∧ b ∈ G then some q else ow b) = some o' ↔ ow b = some o'
      split
      · rename_i hc
        constructor
        · intro e; injection e with e; exact absurd e.symm hne
        · intro how
          obtain ⟨_, _, r', q1, q2⟩ := (hdp hc.1).2 b hc.2
          rw [q1] at how
          injection how with how
          subst how
          exact absurd hm (q2 m x)
      · exact Iff.rfl
    · obtain ⟨F2, F3, t1, t2, t3⟩ := r4.sp hu (i * k + off)
      rw [← s1] at t1
      have hFF : ∀ b ∈ F2 ++ G ++ F3, okB src c ow f.ob b := by
        intro b hb
        rcases List.mem_append.1 hb with hb | hb
        · rcases List.mem_append.1 hb with hb | hb
          · exact r5 b (t2 b (List.mem_append_left _ hb))
          · exact hG b hb
        · exact r5 b (t2 b (List.mem_append_right _ hb))
      refine ⟨r0, r1, fun b hbo => ⟨(r2 b hbo).1, ?_⟩, sp xs (i * k + off) us, F2 ++ G ++ F3, ?_, t1.frame fun b hb => hother b (hokb b (hFF b hb)), fun b hb => hok' b (t1.lt b hb) (hFF b hb), fun hd => ?_⟩
      · show (if dp = true ∧ b ∈ G then some q else ow b) = some q
        split
        · rfl
        · exact (r2 b hbo).2
      · rw [List.length_set]
        refine ⟨by rw [sp_length (by rw [hxl, hul]; omega)]; exact hxl, .inr ⟨g, cap, _, hrv, Nat.zero_le _, setRow_heap w g cur _ e (0, 0) hh, h1, h2, ?_, ?_⟩⟩
        · simp [hul]; omega
        · show (cur.toList.take (i * k + off) ++ us ++ cur.toList.drop (i * k + off + us.length)).take (l.length * k) = sp xs (i * k + off) us
          unfold sp
          rw [← h4, List.take_append, List.take_append, List.take_take, List.take_take, List.drop_take]
          have a1 : min (l.length * k) (i * k + off) = i * k + off := by omega
          have a2 : min (i * k + off) (l.length * k) = i * k + off := by omega
          have a3 : (cur.toList.take (i * k + off)).length = i * k + off := by simp; omega
          rw [a1, a2, List.length_append, a3, List.take_of_length_le (l := us) (by omega)]
      · simp only [Bool.and_eq_true] at hd
        obtain ⟨n1, n2⟩ := r6 hd.1
        obtain ⟨n3, n4⟩ := hdp hd.2
        have hap : ∀ b, b ∈ F2 ++ F3 → b ∈ G → False := by
          intro b hb hbG
          obtain ⟨_, q2, _⟩ := n2 b (t2 b hb)
          obtain ⟨_, _, r', q3, q4⟩ := n4 b hbG
          rw [q2] at q3
          injection q3 with q3
          subst q3
          exact q4 _ _ hr
        have hnd13 := t3 n1
        refine ⟨?_, fun b hb => ?_⟩
        · obtain ⟨m1, m2, m3⟩ := List.nodup_append.1 hnd13
          refine List.nodup_append.2 ⟨List.nodup_append.2 ⟨m1, n3, fun x hx y hy hxy => hap x (List.mem_append_left _ hx) (hxy ▸ hy)⟩, m2, fun x hx y hy hxy => ?_⟩
          rcases List.mem_append.1 hx with hx | hx
          · exact m3 x hx y hy hxy
          · exact hap x (List.mem_append_right _ (hxy ▸ hy)) hx
        · have hne := hokb b (hFF b hb)
          by_cases hbG : b ∈ G
          · obtain ⟨q1, q2, _⟩ := n4 b hbG
            exact ⟨q1, by simp [hd.2, hbG], by rw [hob]; intro e; injection e with e; exact hne e.symm, q2.keep (hother b hne)⟩
          · have hb13 : b ∈ F2 ++ F3 := by
              rcases List.mem_append.1 hb with hb | hb
              · rcases List.mem_append.1 hb with hb | hb
                · exact List.mem_append_left _ hb
                · exact absurd hb hbG
              · exact List.mem_append_right _ hb
            obtain ⟨q1, q2, q3, q4⟩ := n2 b (t2 b hb13)
            exact ⟨q1, by simp [hbG, q2], q3, q4.keep (hother b hne)⟩
end
end Go.V
