/-
  More value operations on abstract data: struct literals, fields, slices of slices, comparison of structs, min and max, bytes of strings. Over any program. Conditions: the obligations that the abstract operations list.
-/
import Derived.Test.YtdmiboplfgmgiaaAbJ
namespace Go.Ab
open Go.RowKit

/-! ### fields of a struct value; struct literals -/
def vFieldV (P : Program) (st : St) (t : TypeId) (x : Operand) (f : Nat) : Option (Slot × List Prop) :=
  match P.underlying t with
  | some (.struct fs) =>
    match fs[f]?, st.get x with
    | some fd, some (g, .val (.agg ts)) => (rdCells P fd.type fd.offset ts).map fun y => (.val y, flagOb g)
    | _, _ => none
  | _ => none
def placesOf (P : Program) : List Field → Option (List (Nat × Nat))
  | [] => some []
  | f :: fs =>
    match P.info? f.type, placesOf P fs with
    | some i, some ps => some ((f.offset, i.size) :: ps)
    | _, _ => none
def fillT (st : St) (place : Nat → Option (Nat × Nat)) : List T → List (Nat × Operand) → Option (List T × List Prop)
  | cells, [] => some (cells, [])
  | cells, (i, x) :: ps =>
    match place i, st.get x with
    | some (off, size), some (g, .val y) =>
      if y.cells.length = size ∧ off + size ≤ cells.length ∧ y.cells.all T.solid = true then
        match fillT st place (sp cells off y.cells) ps with
        | some (r, os) => some (r, flagOb g ++ os)
        | none => none
      else none
    | _, _ => none
def vBuild (P : Program) (st : St) (t : TypeId) (ps : List (Nat × Operand)) : Option (Slot × List Prop) :=
  match P.info? t, P.underlying t with
  | some i, some (.struct fs) =>
    match i.zero, placesOf P fs.toList with
    | some z, some places => (fillT st (fun i => places[i]?) (z.cells.toList.map zT) ps).map fun r => (.val (.agg r.1), r.2)
    | _, _ => none
  | some i, some (.array _ e) =>
    match i.zero, P.info? e with
    | some z, some ie => (fillT st (fun j => some (j * ie.size, ie.size)) (z.cells.toList.map zT) ps).map fun r => (.val (.agg r.1), r.2)
    | _, _ => none
  | _, _ => none

/-! ### slices of slices and of strings -/
def bndOf (st : St) (dflt : Int) : Option Operand → Option (Int × List Prop)
  | none => some (dflt, [])
  | some x =>
    match st.getT x with
    | some (.lit (.int _ n), o) => some (n, o)
    | _ => none
def vSlice (P : Program) (st : St) (t : TypeId) (x : Operand) (lo hi : Option Operand) : Option (Slot × List Prop) :=
  match P.underlying t, st.getT x with
  | some (.slice e), some (.sl es, ox) =>
    match P.info? e, bndOf st 0 lo, bndOf st (es.length : Int) hi with
    | some i, some (l, o1), some (h, o2) => some (.val (.one (.sl ((es.drop l.toNat).take (h - l).toNat))), (0 ≤ l) :: (l ≤ h) :: (h ≤ es.length) :: (∀ z ∈ es, z.length = i.size) :: (ox ++ (o1 ++ o2)))
    | _, _, _ => none
  | some .string, some (.lit (.string s), ox) =>
    match bndOf st 0 lo, bndOf st (s.size : Int) hi with
    | some (l, o1), some (h, o2) => some (.val (.one (.lit (.string (s.extract l.toNat h.toNat)))), (0 ≤ l) :: (l ≤ h) :: (h ≤ s.size) :: (ox ++ (o1 ++ o2)))
    | _, _ => none
  | _, _ => none

/-! ### comparison of structs -/
def eqLit (P : Program) (t : TypeId) : T → T → Option Bool
  | .lit (.int k a), .lit (.int k' b) =>
    match P.underlying t with
    | some (.int _) => if k = k' then some (a == b) else none
    | _ => none
  | .lit (.bool a), .lit (.bool b) =>
    match P.underlying t with
    | some .bool => some (a == b)
    | _ => none
  | .lit (.string a), .lit (.string b) =>
    match P.underlying t with
    | some .string => some (a.toList == b.toList)
    | _ => none
  | _, _ => none
def eqFs (P : Program) (xs ys : List T) : List Field → Option Bool
  | [] => some true
  | f :: fs =>
    match xs[f.offset]?, ys[f.offset]? with
    | some x, some y =>
      match eqLit P f.type x y, eqFs P xs ys fs with
      | some b, some r => if f.name = "_" then none else some (b && r)
      | _, _ => none
    | _, _ => none
def vEq (P : Program) (st : St) (op : BinOp) (t : TypeId) (x y : Operand) : Option (Slot × List Prop) :=
  match P.underlying t, st.get x, st.get y with
  | some (.struct fs), some (gx, .val (.agg xs)), some (gy, .val (.agg ys)) =>
    match eqFs P xs ys fs.toList, op with
    | some b, .eql => some (.val (.one (.lit (.bool b))), (P.stoodInHeld t = false) :: (P.eqGuardType P.depth t = false) :: (flagOb gx ++ flagOb gy))
    | some b, .neq => some (.val (.one (.lit (.bool (!b)))), (P.stoodInHeld t = false) :: (P.eqGuardType P.depth t = false) :: (flagOb gx ++ flagOb gy))
    | _, _ => none
  | _, _, _ => none

/-! ### min, max; bytes -/
def vMM (st : St) (mx : Bool) (x y : Operand) : Option (Slot × List Prop) :=
  match st.getT x, st.getT y with
  | some (.lit (.int k a), ox), some (.lit (.int k' b), oy) =>
    if k = k' then some (.val (.one (.lit (.int k (if mx then (if b > a then b else a) else (if b < a then b else a))))), ox ++ oy) else none
  | _, _ => none
def vIdx (P : Program) (h : Option Hint) (st : St) (t : TypeId) (x i : Operand) : Option (Slot × List Prop) :=
  match P.underlying t, st.get x, st.getT i with
  | some .string, some (g, .val (.one (.lit (.string s)))), some (.lit (.int _ n), oi) =>
    match h with
    | some (.byte b) => some (.val (.one (.lit (.int .u8 (b.toNat : Int)))), (0 ≤ n) :: (s[n.toNat]? = some b) :: (flagOb g ++ oi))
    | _ => none
  | some (.array len e), some (g, .val (.agg ts)), some (.lit (.int _ n), oi) =>
    match h, P.info? e, P.underlying e with
    | some (.elem [y]), some inf, some d => if inf.size = 1 ∧ isOne d = true then some (.val (.one y), (0 ≤ n) :: (n < len) :: (ts[n.toNat]? = some y) :: (flagOb g ++ oi)) else none
    | _, _, _ => none
  | _, _, _ => none
where
  isOne : TypeDesc → Bool
    | .struct _ => false
    | .array _ _ => false
    | _ => true
def bytesT (l : List UInt8) : List (List T) := l.map fun b => [.lit (.int .u8 (b.toNat : Int))]
def vStr (P : Program) (h : Option Hint) (st : St) (s d : TypeId) (x : Operand) : Option (Slot × List Prop) :=
  match P.underlying s, P.underlying d with
  | some (.slice e), some .string =>
    match P.underlying e, st.getT x, h with
    | some (.int .u8), some (.sl es, ox), some (.bytes l) => some (.val (.one (.lit (.string ⟨l.toArray⟩))), (es = bytesT l) :: ox)
    | some (.int .u8), some (.nil, ox), _ => some (.val (.one (.lit (.string ⟨#[]⟩))), ox)
    | _, _, _ => none
  | _, _ => none

def vCall2 (st : St) (cl : Call) : Option (Slot × List Prop) :=
  match cl.callee, cl.args.toList with
  | .builtin .max, [x, y] => vMM st true x y
  | .builtin .min, [x, y] => vMM st false x y
  | _, _ => none
def valOp2 (P : Program) (h : Option Hint) (st : St) : Op → Option (Slot × List Prop)
  | .field t x f => vFieldV P st t x f
  | .build t ps => vBuild P st t ps.toList
  | .slice t x lo hi none => vSlice P st t x lo hi
  | .binOp op t x y _ => vEq P st op t x y
  | .index t x i => vIdx P h st t x i
  | .convert s d x => vStr P h st s d x
  | .call cl => vCall2 st cl
  | _ => none

section
variable {B : Nat} {src : Nat → Prop} {c : Cx} {ow : Nat → Option Nat} {st : St} {a : Act} {w : World} {P : Program} {o : Oper}

theorem part_sound {t : TypeId} {off : Nat} {cs : List T} {x : AV} {ok : Nat → Prop} {vs : List Value} (h : rdCells P t off cs = some x) (ha : All2 (RelT c w ok) vs cs) : ∃ v, RelV c w ok v x ∧ ∀ w' : World, (part t vs.toArray off).run P w' = .ok v w' := by
  have agg : ∀ (i : TypeInfo), P.info? t = some i → (∀ w', (isAgg t).run P w' = .ok true w') → off + i.size ≤ cs.length → x = .agg ((cs.drop off).take i.size) → ∃ v, RelV c w ok v x ∧ ∀ w' : World, (part t vs.toArray off).run P w' = .ok v w' := by
    intro i hi hag hle hx
    subst hx
    refine ⟨.agg ((vs.drop off).take i.size).toArray, ⟨_, rfl, (ha.drop off).take i.size⟩, fun w' => ?_⟩
    simp only [part, Sem.run_bind, hag w', Result.andThen_ok, if_true, run_sizeOf hi]
    have : vs.toArray.extract off (off + i.size) = ((vs.drop off).take i.size).toArray := by
      simp
    rw [this]
    rfl
  unfold rdCells at h
  split at h
  · rename_i i fs hi hu
    split at h
    · rename_i hle; injection h with h; exact agg i hi (run_isAgg_struct hu) hle h.symm
    · cases h
  · rename_i i n e hi hu
    split at h
    · rename_i hle; injection h with h; exact agg i hi (run_isAgg_array hu) hle h.symm
    · cases h
  · rename_i i d hns hna hi hu
    obtain ⟨t', ht', rfl⟩ := Option.map_eq_some_iff.1 h
    obtain ⟨u, hu', hr⟩ := ha.get ht'
    refine ⟨u, hr, fun w' => ?_⟩
    simp only [part, Sem.run_bind, run_isAgg_other hu (fun fs e => hns fs e) (fun n e' h => hna n e' h) w', Result.andThen_ok, Bool.false_eq_true, if_false]
    simp [hu']
  · cases h

theorem fieldV_sound (h : SimC B src c ow st a w) {t : TypeId} {x : Operand} {f : Nat} {s : Slot} {obs : List Prop} (hop : o.op = .field t x f) (hv : vFieldV P st t x f = some (s, obs)) (ho : Ob obs) : ∃ v, RelS c w (okB src c st.ob) v s ∧ Gives P a w o v := by
  unfold vFieldV at hv
  split at hv
  · rename_i fs ht
    split at hv
    · rename_i fd g ts hf hx
      obtain ⟨y, hy, he⟩ := Option.map_eq_some_iff.1 hv
      injection he with e1 e2
      subst e1 e2
      obtain ⟨vs, hve, ha⟩ := h.getOn hx ho
      obtain ⟨v, hr, hrun⟩ := part_sound hy ha
      refine ⟨v, hr, fun w' _ => ?_⟩
      simp only [execOp, hop, hve]
      refine run_v ?_
      simp [Instr.field, run_underlying ht, hf, asAgg, hrun]
    · cases hv
  · cases hv

theorem places_run : ∀ {fs : List Field} {ps : List (Nat × Nat)}, placesOf P fs = some ps → ∀ w' : World, (fs.mapM fun f => (do pure (f.offset, ← sizeOf f.type) : Sem (Nat × Nat))).run P w' = .ok ps w' := by
  intro fs
  induction fs with
  | nil => intro ps h w'; injection h with h; subst h; rfl
  | cons f fs ih =>
    intro ps h w'
    unfold placesOf at h
    split at h
    · rename_i i ps' h1 h2
      injection h with h
      subst h
      have hh := ih h2 w'
      simp only [List.mapM_cons, Sem.run_bind, run_sizeOf h1, Result.andThen_ok, Sem.run_pure]
      rw [hh]
      rfl
    · cases h

theorem fill_one {place : Nat → Option (Nat × Nat)} {cells : List Value} {i off size : Nat} {v : Value} {rest : List (Nat × Value)} (hp : place i = some (off, size)) (hs : v.cells.size = size) (hl : off + size ≤ cells.length) :
    Instr.fill place cells.toArray ((i, v) :: rest) = Instr.fill place (sp cells off v.cells.toList).toArray rest := by
  rw [Instr.fill]
  simp only [hp, hs, ne_eq, not_true_eq_false, decide_false, Bool.false_or, gt_iff_lt, decide_eq_true_eq]
  rw [if_neg (by simpa using hl)]
  congr 1
  have := foldl_set off v.cells.toList 0 cells.toArray (by simp [hs]; omega)
  rw [← Array.foldl_toList, Array.toList_zipIdx]
  unfold sp
  have h2 : v.cells.toList.length = size := by simpa using hs
  simpa [h2, hs] using this

theorem fillT_sound (h : SimC B src c ow st a w) {place : Nat → Option (Nat × Nat)} : ∀ {ps : List (Nat × Operand)} {cells r : List T} {os : List Prop} {vs : List Value}, fillT st place cells ps = some (r, os) → Ob os → All2 (RelT c w (okB src c st.ob)) vs cells →
    ∃ us : List Value, All2 (RelT c w (okB src c st.ob)) us r ∧ Instr.fill place vs.toArray (ps.map fun p => (p.1, a.eval p.2)) = some us.toArray := by
  intro ps
  induction ps with
  | nil => intro cells r os vs hf _ ha; injection hf with hf; injection hf with e1 e2; subst e1; exact ⟨vs, ha, by simp [Instr.fill]⟩
  | cons p ps ih =>
    intro cells r os vs hf ho ha
    obtain ⟨i, x⟩ := p
    unfold fillT at hf
    split at hf
    · rename_i off size g y hp hx
      split at hf
      · rename_i hc
        obtain ⟨c1, c2, c3⟩ := hc
        split at hf
        · rename_i r' os' hrest
          injection hf with hf; injection hf with e1 e2; subst e1 e2
          obtain ⟨o1, o2⟩ := Ob_append ho
          obtain ⟨ws, hws, hall, _⟩ := solid_cells h.rvs (h.getOn hx o1) c3
          have hal := ha.sp hall off
          obtain ⟨us, hu1, hu2⟩ := ih hrest o2 hal
          refine ⟨us, hu1, ?_⟩
          rw [List.map_cons, fill_one (off := off) (size := size) hp (by rw [hws]; simp [hall.length, c1]) (by rw [ha.length]; exact c2), hws]
          exact hu2
        · cases hf
      · cases hf
    · cases hf

theorem build_sound (h : SimC B src c ow st a w) {t : TypeId} {ps : Array (Nat × Operand)} {s : Slot} {obs : List Prop} (hop : o.op = .build t ps) (hv : vBuild P st t ps.toList = some (s, obs)) (ho : Ob obs) : ∃ v, RelS c w (okB src c st.ob) v s ∧ Gives P a w o v := by
  unfold vBuild at hv
  split at hv
  · rename_i i fs hi ht
    split at hv
    · rename_i z places hz hpl
      obtain ⟨⟨r, os⟩, hf, he⟩ := Option.map_eq_some_iff.1 hv
      injection he with e1 e2
      subst e1 e2
      obtain ⟨us, hu1, hu2⟩ := fillT_sound (a := a) h hf ho (zTs_sound z.cells.toList)
      refine ⟨.agg us.toArray, ⟨us, rfl, hu1⟩, fun w' _ => ?_⟩
      simp only [execOp, hop]
      refine run_v ?_
      have hm : (fs.mapM fun f => (do pure (f.offset, ← sizeOf f.type) : Sem (Nat × Nat))).run P w' = .ok places.toArray w' := by
        have he : fs = fs.toList.toArray := by simp
        rw [he, List.mapM_toArray]
        have := places_run hpl w'
        simp only [Sem.run_bind, map_eq_pure_bind, this, Result.andThen_ok]
        rfl
      simp only [Instr.build, zeroValue, typeInfo, Sem.run_bind, run_program, Result.andThen_ok, hi, hz, Sem.run_pure, run_underlying ht]
      rw [hm]
      simp only [Result.andThen_ok, Array.toList_map]
      have hu2' : Instr.fill (fun x => places.toArray[x]?) z.cells (List.map (fun p => (p.1, a.eval p.2)) ps.toList) = some us.toArray := by simpa using hu2
      simp only [hu2']
      rfl
    · cases hv
  · rename_i i n e hi ht
    split at hv
    · rename_i z ie hz hie
      obtain ⟨⟨r, os⟩, hf, he⟩ := Option.map_eq_some_iff.1 hv
      injection he with e1 e2
      subst e1 e2
      obtain ⟨us, hu1, hu2⟩ := fillT_sound (a := a) h hf ho (zTs_sound z.cells.toList)
      refine ⟨.agg us.toArray, ⟨us, rfl, hu1⟩, fun w' _ => ?_⟩
      simp only [execOp, hop]
      refine run_v ?_
      simp only [Instr.build, zeroValue, typeInfo, Sem.run_bind, run_program, Result.andThen_ok, hi, hz, Sem.run_pure, run_underlying ht, run_sizeOf hie, Array.toList_map]
      have hu2' : Instr.fill (fun x => some (x * ie.size, ie.size)) z.cells (List.map (fun p => (p.1, a.eval p.2)) ps.toList) = some us.toArray := by simpa using hu2
      simp only [hu2']
      rfl
    · cases hv
  · cases hv
end
end Go.Ab
