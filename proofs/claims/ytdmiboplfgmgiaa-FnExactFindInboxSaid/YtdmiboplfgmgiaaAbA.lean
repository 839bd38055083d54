/-
  Regions and code on abstract frames: the rules by which a body is walked. Over any program. Conditions: the obligations that the abstract operations list.
-/
import Derived.Test.YtdmiboplfgmgiaaAbL
import Derived.Deep.LoopGhost
namespace Go.Ab
open Go.RowKit

def hintOf (hs : List (Nat × Hint)) (d : Option Nat) : Option Hint :=
  match d with
  | some d => (hs.find? fun e => e.1 == d).map (·.2)
  | none => none

def callOp (P : Program) (h : Option Hint) (st : St) (cl : Call) : Option (Slot × List Prop) :=
  match cl.callee, h with
  | .value (.func f), some (.call args outs none) => callData st f cl args outs P
  | _, _ => none

/-- Operations that make or write memory. -/
def memOp (P : Program) (st : St) (d : Option Nat) : Op → Option (St × List Prop)
  | .alloc t =>
    match d, P.info? t with
    | some d, some i =>
      match i.zero with
      | some z => some (st.newBox d ((z.cells.toList.map zT).map (scrubT d)), [])
      | none => none
    | _, _ => none
  | .box _ x =>
    match d, st.get x with
    | some d, some (g, .val y) => if y.cells.all T.solid then some (st.newBox d (y.cells.map (scrubT d)), flagOb g) else none
    | _, _ => none
  | .store t p x =>
    match st.getT p, st.get x, P.info? t with
    | some (.ptr i off, op), some (g, .val y), some inf =>
      match st.box i with
      | some cs => if y.cells.length = inf.size ∧ off + y.cells.length ≤ cs.length ∧ y.cells.all T.solid = true ∧ d = none then some (⟨st.fr, setBox i off y.cells st.ob⟩, op ++ flagOb g) else none
      | none => none
    | _, _, _ => none
  | _ => none
/-- Operations on rows. -/
def rowOp (P : Program) (h : Option Hint) (st : St) (d : Option Nat) : Op → Option (St × List Prop)
  | .makeSlice t x y =>
    match d with
    | some d => mMake P st d t x y
    | none => none
  | .buildSlice t len ps =>
    match d with
    | some d => mLit P st d t len ps.toList
    | none => none
  | .store t p x =>
    match st.getT p, st.get x, P.info? t with
    | some (.rp r k i off, op), some (g, .val y), some inf =>
      match st.row r, mvL st y.cells with
      | some (e, k', es, deep), some (ts, ids, dp) =>
        if k = k' ∧ ts.length = inf.size ∧ off + ts.length ≤ k ∧ nodupB ids = true ∧ ids.contains r = false ∧ d = none then
          some (⟨(st.freezeAll ids).fr, setRowOb r (.row e k (setEl k es i off ts) (deep && dp)) (st.freezeAll ids).ob⟩, (i < es.length) :: (op ++ flagOb g))
        else none
      | _, _ => none
    | _, _, _ => none
  | .call cl =>
    match d, cl.callee, cl.args.toList, cl.argTypes.toList with
    | some d, .builtin .append, [s, x], [t, t'] => if t = t' then mApp P h st d t s x else none
    | some d, .value (.func f), _, _ =>
      match h with
      | some (.call args outs (some ekss)) => callFresh st f cl d args outs ekss P
      | _ => none
    | _, _, _, _ => none
  | _ => none

def guardOf (ops : Array Oper) (st : St) (j : Nat) (want : Bool) : Option Bool :=
  match (ops[j]?).bind (·.dst) with
  | some d =>
    match st.look d with
    | some (none, .val (.one (.lit (.bool b)))) => some (cond want b (!b))
    | some (some g, .val (.one (.lit (.bool b)))) => some (g && cond want b (!b))
    | _ => none
  | none => none
def whenOb (b : Bool) (obs : List Prop) : List Prop := obs.map fun p => (b = true → p)
def inFrame (n : Nat) : Option Nat → Bool
  | some d => decide (d < n)
  | none => true

def valOps (P : Program) (h : Option Hint) (st : St) (op : Op) : Option (Slot × List Prop) :=
  match valOp P h st op with
  | some r => some r
  | none => valOp2 P h st op
def absOp (P : Program) (n : Nat) (hs : List (Nat × Hint)) (ops : Array Oper) (st : St) (o : Oper) : Option (St × List Prop) :=
  if inFrame n o.dst then
    match o.guard with
    | none =>
      match valOps P (hintOf hs o.dst) st o.op with
      | some (s, obs) => some (st.put o.dst none s, obs)
      | none =>
        match memOp P st o.dst o.op with
        | some r => some r
        | none =>
          match rowOp P (hintOf hs o.dst) st o.dst o.op with
          | some r => some r
          | none =>
            match o.op with
            | .call cl => (callOp P (hintOf hs o.dst) st cl).map fun r => (st.put o.dst none r.1, r.2)
            | _ => none
    | some (j, want) =>
      match guardOf ops st j want with
      | some b =>
        match valOps P (hintOf hs o.dst) st o.op with
        | some (s, obs) => some (st.put o.dst (some b) s, whenOb b obs)
        | none =>
          match o.op with
          | .call cl => (callOp P (hintOf hs o.dst) st cl).map fun r => (st.put o.dst (some b) r.1, whenOb b r.2)
          | _ => none
      | none => none
  else none
def absOps (P : Program) (n : Nat) (hs : List (Nat × Hint)) (ops : Array Oper) : List Oper → St → Option (St × List Prop)
  | [], st => some (st, [])
  | o :: os, st =>
    match absOp P n hs ops st o with
    | some (st', obs) =>
      match absOps P n hs ops os st' with
      | some (st'', obs') => some (st'', obs ++ obs')
      | none => none
    | none => none

/-- What a walk of one body keeps fixed: the program, the frame's length, the world at the call, the first block of the call's own, the blocks that its data may lie in. -/
structure Ctx where
  P : Program
  n : Nat
  w0 : World
  B : Nat
  src : Nat → Prop
  hsrc : ∀ b, B ≤ b → src b

def At (X : Ctx) (st : St) (a : Act) (w : World) : Prop := Sim X.B X.src st a w ∧ Below X.B X.w0 w ∧ a.tmps.size = X.n
def aw (X : Ctx) (cd : Code) (Q : Exit → St → Prop) (st : St) : Prop := ∀ a w, At X st a w → cd.wp X.P (fun e a' w' => ∃ st', Q e st' ∧ At X st' a' w') a w

/-- May the operation write into memory that is there? -/
def writes : Op → Bool
  | .store _ _ _ => true
  | .call cl =>
    match cl.callee with
    | .builtin .append => true
    | _ => false
  | _ => false
/-- What was there is there. -/
def Stays (w w' : World) : Prop := ∀ b, b < w.heap.size → w'.heap[b]? = w.heap[b]?

theorem size_put (a : Act) (d : Option Nat) (v : Value) : (a.put d v).tmps.size = a.tmps.size := by cases d <;> simp [Act.put]

section
variable {X : Ctx} {st : St} {a : Act} {w : World}

theorem St.put_none (st : St) (g : Option Bool) (x : Slot) : st.put none g x = st := rfl

theorem At.put (h : At X st a w) {c : Cx} {ow : Nat → Option Nat} {d : Option Nat} {g : Option Bool} {s : Slot} {v : Value} (hs : SimC X.B X.src c ow st a w) (hd : inFrame X.n d = true) (hx : on g = true → RelS c w (okB X.src c st.ob) v s) (hv : on g = false → v = undef) :
    At X (st.put d g s) (a.put d v) w := by
  refine ⟨?_, h.2.1, by rw [size_put]; exact h.2.2⟩
  cases d with
  | none => exact ⟨c, ow, hs⟩
  | some d => exact ⟨c, ow, hs.put (by rw [h.2.2]; simpa [inFrame] using hd) hx hv⟩

theorem callOp_sound (h : At X st a w) {c : Cx} {ow : Nat → Option Nat} (hs : SimC X.B X.src c ow st a w) {o : Oper} {hn : Option Hint} {cl : Call} {s : Slot} {obs : List Prop} (hop : o.op = .call cl) (hv : callOp X.P hn st cl = some (s, obs)) (ho : Ob obs) (hd : inFrame X.n o.dst = true)
    (g : Option Bool) (hg : on g = true) {K : Act → World → Prop} {Q : Exit → Act → World → Prop} (hK : ∀ a' w', At X (st.put o.dst g s) a' w' → Stays w w' → K a' w') : o.wp X.P a w K Q := by
  unfold callOp at hv
  split at hv
  · rename_i f args outs hf
    refine callData_sound hs X.hsrc hop hf hv ho fun v w' hb hs' hr => hK _ _ ?_ ?_
    · have h' : At X st a w' := ⟨⟨c, ow, hs'⟩, h.2.1.trans (hb.mono hs.base), h.2.2⟩
      exact h'.put hs' hd (fun _ => hr) (fun h => by rw [hg] at h; cases h)
    · exact hb.block
  · cases hv

theorem memOp_sound (h : At X st a w) {o : Oper} {st' : St} {obs : List Prop} (hv : memOp X.P st o.dst o.op = some (st', obs)) (ho : Ob obs) (hd : inFrame X.n o.dst = true) {K : Act → World → Prop} {Q : Exit → Act → World → Prop} (hK : ∀ a' w', At X st' a' w' → (writes o.op = false → Stays w w') → K a' w') : o.wp X.P a w K Q := by
  obtain ⟨⟨c, ow, hs⟩, hb, hn⟩ := h
  unfold memOp at hv
  split at hv
  · rename_i t hop
    split at hv
    · rename_i d i hdst hi
      split at hv
      · rename_i z hz
        injection hv with hv
        injection hv with e1 e2
        subst e1 e2
        have hlt : d < a.tmps.size := by rw [hn]; rw [hdst] at hd; simpa [inFrame] using hd
        have h1 := newBox_sound hs hlt t (zTs_sound (c := c) (w := w) (ok := okB X.src c st.ob) z.cells.toList)
        unfold Oper.wp
        have hrun : (execOp a.eval o).run X.P w = .ok (.value (.pointer (some ⟨w.heap.size, 0, none⟩))) (w.alloc (.cells z.cells t (0, 0))) := by
          simp [execOp, hop, Instr.alloc, zeroValue, typeInfo, hi, hz, run_newVar]
        rw [hrun]
        simp only [Oper.upon, hdst]
        refine hK _ _ ⟨?_, hb.alloc hs.base _, by rw [size_put]; exact hn⟩ (fun _ b hb' => Below.heap_alloc _ _ _ hb')
        simpa using h1
      · cases hv
    · cases hv
  · rename_i t x hop
    split at hv
    · rename_i d g y hdst hx
      split at hv
      · rename_i hsol
        injection hv with hv
        injection hv with e1 e2
        subst e1 e2
        have hlt : d < a.tmps.size := by rw [hn]; rw [hdst] at hd; simpa [inFrame] using hd
        obtain ⟨vs, hvs, hall, _⟩ := solid_cells hs.rvs (hs.getOn hx ho) hsol
        have h1 := newBox_sound hs hlt t hall
        unfold Oper.wp
        have hrun : (execOp a.eval o).run X.P w = .ok (.value (.pointer (some ⟨w.heap.size, 0, none⟩))) (w.alloc (.cells vs.toArray t (0, 0))) := by
          simp [execOp, hop, Instr.box, run_newVar, hvs]
        rw [hrun]
        simp only [Oper.upon, hdst]
        exact hK _ _ ⟨h1, hb.alloc hs.base _, by rw [size_put]; exact hn⟩ (fun _ b hb' => Below.heap_alloc _ _ _ hb')
      · cases hv
    · cases hv
  · rename_i t p x hop
    split at hv
    · rename_i i off op g y inf hp hx hi
      split at hv
      · rename_i cs hbx
        split at hv
        · rename_i hcond
          obtain ⟨c1, c2, c3, c4⟩ := hcond
          injection hv with hv
          injection hv with e1 e2
          subst e1 e2
          obtain ⟨p1, p2⟩ := Ob_append ho
          have hpv : a.eval p = .pointer (some ⟨c.loc i, off, none⟩) := hs.getT hp p1
          obtain ⟨vs, hvs, hall, hone⟩ := solid_cells hs.rvs (hs.getOn hx p2) c3
          obtain ⟨w', hrun, hs', hoth, hsz, e1, e2, e3, hBl⟩ := storeBox_sound (P := X.P) hs (box_mem hbx) c2 hall hone
          unfold Oper.wp
          have hlen : vs.length = inf.size := by rw [hall.length]; exact c1
          have hrun' : (execOp a.eval o).run X.P w = .ok .skip w' := by
            simp [execOp, hop, Instr.storeAt, hpv, Instr.sureAddr, storeVar, run_sizeOf hi, hvs, hlen, hrun]
          rw [hrun']
          simp only [Oper.upon, c4]
          refine hK _ _ ⟨⟨c, ow, hs'⟩, hb.trans ⟨e1, e2, e3, by omega, fun k hk => hoth k (by omega)⟩, hn⟩ (fun hw => by rw [hop] at hw; cases hw)
        · cases hv
      · cases hv
    · cases hv
  · cases hv

theorem valOps_sound {B : Nat} {src : Nat → Prop} {c : Cx} {ow : Nat → Option Nat} {P : Program} {o : Oper} (h : SimC B src c ow st a w) {hn : Option Hint} {s : Slot} {obs : List Prop} (hv : valOps P hn st o.op = some (s, obs)) (ho : Ob obs) : ∃ v, RelS c w (okB src c st.ob) v s ∧ Gives P a w o v := by
  unfold valOps at hv
  split at hv
  · rename_i r hr
    injection hv with hv
    subst hv
    exact valOp_sound h hr ho
  · exact valOp2_sound h hv ho

theorem rowOp_sound (h : At X st a w) {o : Oper} {hn : Option Hint} {st' : St} {obs : List Prop} (hv : rowOp X.P hn st o.dst o.op = some (st', obs)) (ho : Ob obs) (hd : inFrame X.n o.dst = true) {K : Act → World → Prop} {Q : Exit → Act → World → Prop} (hK : ∀ a' w', At X st' a' w' → (writes o.op = false → Stays w w') → K a' w') : o.wp X.P a w K Q := by
  obtain ⟨⟨c, ow, hs⟩, hb, hn'⟩ := h
  have hlt : ∀ d, o.dst = some d → d < a.tmps.size := fun d hdst => by rw [hn']; rw [hdst] at hd; simpa [inFrame] using hd
  have fin : ∀ d v w', Sim X.B X.src st' (a.put (some d) v) w' → Below w.heap.size w w' → K (a.put (some d) v) w' := fun d v w' hsim hbel => hK _ _ ⟨hsim, hb.trans (hbel.mono hs.base), by rw [size_put]; exact hn'⟩ (fun _ => hbel.block)
  unfold rowOp at hv
  split at hv
  · rename_i t x y hop
    split at hv
    · rename_i d hdst
      exact make_sound hs X.hsrc hdst (hlt d hdst) hop hv ho (fin d)
    · cases hv
  · rename_i t len ps hop
    split at hv
    · rename_i d hdst
      exact lit_sound hs X.hsrc hdst (hlt d hdst) hop hv ho (fin d)
    · cases hv
  · rename_i t p x hop
    split at hv
    · rename_i r k i off op g y inf hp hx hi
      split at hv
      · rename_i e k' es deep ts ids dp hrow hmv
        split at hv
        · rename_i hc
          obtain ⟨rfl, c2, c3, c4, c5, c6⟩ := hc
          injection hv with hv
          injection hv with e1 e2
          subst e1 e2
          obtain ⟨p1, p2⟩ := ho
          obtain ⟨p2, p3⟩ := Ob_append p2
          obtain ⟨gg, n, cap, hrv, hpv⟩ := hs.getT hp p2
          obtain ⟨hsol, hlen⟩ := mvL_solid hmv
          obtain ⟨vs, hvs, hall, _⟩ := solid_cells hs.rvs (hs.getOn hx p3) hsol
          obtain ⟨F, f1, f2⟩ := mvL_sound hs hmv hall (nodupB_sound c4)
          obtain ⟨t1, t2⟩ := f2.frozen hs X.hsrc (fun r hr => hr) (mvL_ids hmv)
          have h0 := hs.freezeAll X.hsrc ids
          have hm1 := mem_freezeAll_row c5 (row_mem hrow)
          obtain ⟨w', ow', hrun, hsim, hbel⟩ := storeRow_sound (P := X.P) h0 hm1 p1 c3 f1 t1 t2 hrv
          unfold Oper.wp
          have hlen' : vs.length = inf.size := by rw [f1.length]; exact c2
          have hrun' : (execOp a.eval o).run X.P w = .ok .skip w' := by
            simp [execOp, hop, Instr.storeAt, hpv, Instr.sureAddr, storeVar, run_sizeOf hi, hvs, hlen', hrun]
          rw [hrun']
          simp only [Oper.upon, c6]
          exact hK _ _ ⟨⟨c, ow', hsim⟩, hb.trans hbel, hn'⟩ (fun hw => by rw [hop] at hw; cases hw)
        · cases hv
      · cases hv
    · cases hv
  · rename_i cl hop
    split at hv
    · rename_i d s x t t' hdst hcal hargs htys
      split at hv
      · rename_i htt
        subst htt
        refine app_sound hs X.hsrc hdst (hlt d hdst) ?_ hv ho (fun v w' hsim hbel => hK _ _ ⟨hsim, hb.trans hbel, by rw [size_put]; exact hn'⟩ (fun hw => by rw [hop] at hw; simp [writes, hcal] at hw))
        rw [hop]
        congr 1
        obtain ⟨cal, ar, ty⟩ := cl
        simp only at hcal hargs htys
        obtain ⟨ar⟩ := ar
        obtain ⟨ty⟩ := ty
        simp only at hargs htys
        subst hcal hargs htys
        rfl
      · cases hv
    · rename_i hdst hcal
      split at hv
      · rename_i args outs ekss
        exact callFresh_sound hs X.hsrc hdst (hlt _ hdst) hop hcal hv ho (fin _)
      · cases hv
    · cases hv
  · cases hv

theorem Ob_when {b : Bool} {obs : List Prop} (h : Ob (whenOb b obs)) (hb : b = true) : Ob obs := by
  induction obs with
  | nil => trivial
  | cons p ps ih => exact ⟨h.1 hb, ih h.2⟩

theorem guardOf_sound {c : Cx} {ow : Nat → Option Nat} (h : SimC X.B X.src c ow st a w) {ops : Array Oper} {o : Oper} {j : Nat} {want b : Bool} (hg : o.guard = some (j, want)) (hb : guardOf ops st j want = some b) : Region.wanted o (yielded ops a.tmps) = b := by
  unfold guardOf at hb
  split at hb
  · rename_i d hd
    simp only [Region.wanted, hg, yielded, hd, Option.bind_some]
    split at hb
    · rename_i b' hl
      obtain ⟨v, hv, h1, h2⟩ := h.fr d _ _ (look_mem hl)
      obtain ⟨rfl, _⟩ := h1 rfl
      injection hb with hb
      subst hb
      rw [hv]
      cases want <;> cases b' <;> rfl
    · rename_i g b' hl
      obtain ⟨v, hv, h1, h2⟩ := h.fr d _ _ (look_mem hl)
      injection hb with hb
      subst hb
      rw [hv]
      cases g with
      | true => obtain ⟨rfl, _⟩ := h1 rfl; cases want <;> cases b' <;> rfl
      | false => have := h2 rfl; subst this; rfl
    · cases hb
  · cases hb

theorem absOp_sound (h : At X st a w) {hs : List (Nat × Hint)} {ops : Array Oper} {o : Oper} {st' : St} {obs : List Prop} (hv : absOp X.P X.n hs ops st o = some (st', obs)) (ho : Ob obs) {K : Act → World → Prop} {Q : Exit → Act → World → Prop} (hK : ∀ a' w', At X st' a' w' → (writes o.op = false → Stays w w') → K a' w') :
    if Region.wanted o (yielded ops a.tmps) then o.wp X.P a w K Q else K (a.put o.dst undef) w := by
  obtain ⟨⟨c, ow, hsim⟩, hb, hn⟩ := id h
  unfold absOp at hv
  split at hv
  · rename_i hd
    split at hv
    · rename_i hg
      have hw : Region.wanted o (yielded ops a.tmps) = true := by simp [Region.wanted, hg]
      rw [if_pos hw]
      split at hv
      · rename_i s obs' hval
        injection hv with hv
        injection hv with e1 e2
        subst e1 e2
        obtain ⟨v, hr, hgv⟩ := valOps_sound (P := X.P) hsim hval ho
        unfold Oper.wp
        rw [hgv w (fun _ _ => rfl)]
        exact hK _ _ (h.put hsim hd (fun _ => hr) (fun h => by cases h)) (fun _ _ _ => rfl)
      · split at hv
        · rename_i r hmem
          injection hv with hv
          subst hv
          exact memOp_sound h hmem ho hd hK
        · split at hv
          · rename_i r hrow
            injection hv with hv
            subst hv
            exact rowOp_sound h hrow ho hd hK
          split at hv
          · rename_i cl hop
            obtain ⟨⟨s, obs'⟩, hc, he⟩ := Option.map_eq_some_iff.1 hv
            injection he with e1 e2
            subst e1 e2
            exact callOp_sound h hsim hop hc ho hd none rfl fun a' w' h1 h2 => hK a' w' h1 fun _ => h2
          · cases hv
    · rename_i j want hg
      split at hv
      · rename_i b hgo
        rw [guardOf_sound hsim hg hgo]
        split at hv
        · rename_i s obs' hval
          injection hv with hv
          injection hv with e1 e2
          subst e1 e2
          cases b with
          | true =>
            obtain ⟨v, hr, hgv⟩ := valOps_sound (P := X.P) hsim hval (Ob_when ho rfl)
            rw [if_pos rfl]
            unfold Oper.wp
            rw [hgv w (fun _ _ => rfl)]
            exact hK _ _ (h.put hsim hd (fun _ => hr) (fun h => by cases h)) (fun _ _ _ => rfl)
          | false =>
            rw [if_neg (by simp)]
            exact hK _ _ (h.put hsim hd (fun h => by cases h) (fun _ => rfl)) (fun _ _ _ => rfl)
        · split at hv
          · rename_i cl hop
            obtain ⟨⟨s, obs'⟩, hc, he⟩ := Option.map_eq_some_iff.1 hv
            injection he with e1 e2
            subst e1 e2
            cases b with
            | true =>
              rw [if_pos rfl]
              exact callOp_sound h hsim hop hc (Ob_when ho rfl) hd (some true) rfl fun a' w' h1 h2 => hK a' w' h1 fun _ => h2
            | false =>
              rw [if_neg (by simp)]
              exact hK _ _ (h.put hsim hd (fun h => by cases h) (fun _ => rfl)) (fun _ _ _ => rfl)
          · cases hv
      · cases hv
  · cases hv

theorem absOps_sound {hs : List (Nat × Hint)} {ops : Array Oper} {Q : Exit → Act → World → Prop} : ∀ (l : List Oper) (st : St) (a : Act) (w : World) {st' : St} {obs : List Prop}, At X st a w → absOps X.P X.n hs ops l st = some (st', obs) → Ob obs →
    (∀ a' w', At X st' a' w' → Q .normal a' w') → wpList X.P ops Q l a w := by
  intro l
  induction l with
  | nil =>
    intro st a w st' obs h hv ho hQ
    injection hv with hv
    injection hv with e1 e2
    subst e1
    exact wpList_nil (hQ a w h)
  | cons o os ih =>
    intro st a w st' obs h hv ho hQ
    unfold absOps at hv
    split at hv
    · rename_i st1 obs1 h1
      split at hv
      · rename_i st2 obs2 h2
        injection hv with hv
        injection hv with e1 e2
        subst e1 e2
        obtain ⟨o1, o2⟩ := Ob_append ho
        exact wpList_step fun K hK => absOp_sound h h1 o1 fun a' w' h' _ => hK a' w' (ih st1 a' w' h' h2 o2 hQ)
      · cases hv
    · cases hv

/-! ### the rules -/
theorem aw_region {id : Nat} {ops : Array Oper} {Q : Exit → St → Prop} (hs : List (Nat × Hint)) (st' : St) (obs : List Prop) (h : absOps X.P X.n hs ops ops.toList st = some (st', obs)) (ho : Ob obs) (hq : Q .normal st') : aw X (.region id ops false) Q st :=
  fun a w hat => wp_region_list (absOps_sound ops.toList st a w hat h ho fun _ _ h' => ⟨st', hq, h'⟩)
/-- What follows a part that ends by itself. -/
def andThen (K : St → Prop) (Q : Exit → St → Prop) : Exit → St → Prop
  | .normal, st => K st
  | e, st => Q e st
theorem aw_seq {x y : Code} {Q : Exit → St → Prop} (h : aw X x (andThen (aw X y Q) Q) st) : aw X (.seq x y) Q st := by
  intro a w hat
  refine wp_seq (Code.wp_mono ?_ (h a w hat))
  intro e a' w' ⟨st', hq, hat'⟩
  cases e with
  | normal => exact hq a' w' hat'
  | _ => exact ⟨st', hq, hat'⟩
theorem aw_skip {Q : Exit → St → Prop} (h : Q .normal st) : aw X .skip Q st := fun _ _ hat => wp_skip ⟨st, h, hat⟩
theorem aw_ret {Q : Exit → St → Prop} (h : Q .ret st) : aw X .ret Q st := fun _ _ hat => wp_ret ⟨st, h, hat⟩
theorem aw_exit {id : Nat} {Q : Exit → St → Prop} (h : Q (.exit id) st) : aw X (.exit id) Q st := fun _ _ hat => wp_exit ⟨st, h, hat⟩
theorem aw_cond {cn : Operand} {x y : Code} {Q : Exit → St → Prop} (b : Bool) (hc : st.get cn = some (none, .val (.one (.lit (.bool b))))) (ht : b = true → aw X x Q st) (hf : b = false → aw X y Q st) : aw X (.cond cn x y) Q st := by
  intro a w hat
  obtain ⟨⟨c, ow, hsim⟩, _, _⟩ := id hat
  obtain ⟨hv, _⟩ := hsim.getOn hc trivial
  exact wp_cond_split hv (fun h => ht h a w hat) (fun h => hf h a w hat)
def inBlk (id : Nat) (Q : Exit → St → Prop) : Exit → St → Prop
  | .exit id', st => if id' = id then Q .normal st else Q (.exit id') st
  | e, st => Q e st
theorem aw_block {id : Nat} {x : Code} {Q : Exit → St → Prop} (h : aw X x (inBlk id Q) st) : aw X (.block id x) Q st := by
  intro a w hat
  refine wp_block (Code.wp_mono ?_ (h a w hat))
  intro e a' w' ⟨st', hq, hat'⟩
  cases e with
  | exit id' =>
    simp only [Exit.inBlock, inBlk] at hq ⊢
    split
    · rename_i he; rw [if_pos he] at hq; exact ⟨st', hq, hat'⟩
    · rename_i he; rw [if_neg he] at hq; exact ⟨st', hq, hat'⟩
  | _ => exact ⟨st', hq, hat'⟩
theorem aw_loop {x : Code} {Q : Exit → St → Prop} (I : Nat → St → Prop) (m : Nat) (h0 : I m st) (round : ∀ k s, I k s → aw X x (andThen (fun s' => ∃ k', k' < k ∧ I k' s') Q) s) : aw X (.loop x) Q st := by
  intro a w hat
  refine wp_loop_ghost (fun k a w => ∃ s, I k s ∧ At X s a w) m ⟨st, h0, hat⟩ ?_
  rintro k a w ⟨s, hI, hat'⟩
  refine Code.wp_mono ?_ (round k s hI a w hat')
  intro e a' w' ⟨st', hq, hat''⟩
  cases e with
  | normal => obtain ⟨k', hk, hI'⟩ := hq; exact ⟨k', hk, st', hI', hat''⟩
  | _ => exact ⟨st', hq, hat''⟩
theorem aw_weak {cd : Code} {Q : Exit → St → Prop} (p : Nat × Option Bool × Slot → Bool) (f : Nat → LO → Option LO) (hf : ∀ o x y, (o, x) ∈ st.ob → f o x = some y → y.le x) (h : aw X cd Q (st.weak p f)) : aw X cd Q st := by
  intro a w hat
  obtain ⟨⟨c, ow, hsim⟩, hb, hn⟩ := hat
  exact h a w ⟨⟨c, ow, hsim.weak p f hf⟩, hb, hn⟩
/-- Keep these slots and these objects. -/
def St.keep (st : St) (ss os : List Nat) : St := st.weak (fun e => ss.contains e.1) (fun o x => if os.contains o then some x else none)
theorem aw_keep {cd : Code} {Q : Exit → St → Prop} (ss os : List Nat) (st' : St) (he : st.keep ss os = st') (h : aw X cd Q st') : aw X cd Q st := by
  subst he
  refine aw_weak _ _ (fun o x y _ hxy => ?_) h
  split at hxy
  · injection hxy with hxy; subst hxy; exact LO.le_refl _
  · cases hxy
theorem aw_freeze {cd : Code} {Q : Exit → St → Prop} (ids : List Nat) (st' : St) (he : st.freezeAll ids = st') (h : aw X cd Q st') : aw X cd Q st := by
  subst he
  intro a w hat
  obtain ⟨⟨c, ow, hsim⟩, hb, hn⟩ := hat
  exact h a w ⟨⟨c, ow, hsim.freezeAll X.hsrc ids⟩, hb, hn⟩
theorem aw_rename {cd : Code} {Q : Exit → St → Prop} (d e : Nat) (st' : St) (hu : st.unused e = true) (he : st.rename d e = st') (h : aw X cd Q st') : aw X cd Q st := by
  subst he
  intro a w hat
  obtain ⟨⟨c, ow, hsim⟩, hb, hn⟩ := hat
  exact h a w ⟨⟨_, _, hsim.rename hu⟩, hb, hn⟩
theorem aw_nilSlot {cd : Code} {Q : Exit → St → Prop} (s d e k : Nat) (st' : St) (hu : st.unused d = true) (hk : 0 < k) (hl : st.look s = some (none, .val (.one .nil))) (he : st.nilSlot s d e k = st') (h : aw X cd Q st') : aw X cd Q st := by
  subst he
  intro a w hat
  obtain ⟨⟨c, ow, hsim⟩, hb, hn⟩ := hat
  exact h a w ⟨hsim.nilSlot X.hsrc hu hk hl, hb, hn⟩
theorem aw_nilBox {cd : Code} {Q : Exit → St → Prop} (i off d e k : Nat) (cs : List T) (st' : St) (hu : st.unused d = true) (hk : 0 < k) (hb : st.box i = some cs) (hc : cs[off]? = some .nil) (he : st.nilBox i off d e k = st') (h : aw X cd Q st') : aw X cd Q st := by
  subst he
  intro a w hat
  obtain ⟨⟨c, ow, hsim⟩, hb', hn⟩ := hat
  exact h a w ⟨hsim.nilBox X.hsrc hu hk hb hc, hb', hn⟩
theorem aw_plain {cd : Code} {Q : Exit → St → Prop} (s : Nat) (v : Value) (hl : st.look s = some (none, .val (.one (.lit v)))) (h : plain v = true → aw X cd Q st) : aw X cd Q st := by
  intro a w hat
  obtain ⟨⟨c, ow, hsim⟩, _, _⟩ := id hat
  obtain ⟨u, _, h1, _⟩ := hsim.fr s _ _ (look_mem hl)
  exact h (h1 rfl).2 a w hat
theorem aw_mono {cd : Code} {Q Q' : Exit → St → Prop} (h : aw X cd Q st) (hq : ∀ e s, Q e s → Q' e s) : aw X cd Q' st := fun a w hat => Code.wp_mono (fun e _ _ ⟨st', hq', hat'⟩ => ⟨st', hq e st' hq', hat'⟩) (h a w hat)
end
end Go.Ab
