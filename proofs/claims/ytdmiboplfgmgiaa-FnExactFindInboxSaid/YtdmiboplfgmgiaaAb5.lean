/-
  Value operations on abstract data, one by one, and that the model gives what they say. Over any program. Conditions: the obligations that the abstract operation lists.
-/
import Derived.Test.YtdmiboplfgmgiaaAb4
namespace Go.Ab
open Go.RowKit

theorem plain_wrap (k : IntKind) (n : Int) : plain (.int k (k.wrap n)) = true := by
  have h8 : (2 : Int) ^ 8 = 256 := by decide
  have h7 : (2 : Int) ^ 7 = 128 := by decide
  have h16 : (2 : Int) ^ 16 = 65536 := by decide
  have h15 : (2 : Int) ^ 15 = 32768 := by decide
  have h32 : (2 : Int) ^ 32 = 4294967296 := by decide
  have h31 : (2 : Int) ^ 31 = 2147483648 := by decide
  have h64 : (2 : Int) ^ 64 = 18446744073709551616 := by decide
  have h63 : (2 : Int) ^ 63 = 9223372036854775808 := by decide
  cases k <;> simp [plain, IntKind.wrap, IntKind.min, IntKind.max, IntKind.signed, IntKind.bits, h8, h7, h16, h15, h32, h31, h64, h63] <;> (try split) <;> omega
theorem plain_tmod {k : IntKind} {a b : Int} (h : plain (.int k a) = true) : plain (.int k (a.tmod b)) = true := by
  simp only [plain, Bool.and_eq_true, decide_eq_true_eq] at h ⊢
  have h0 : k.min ≤ 0 := by cases k <;> simp [IntKind.min, IntKind.signed, IntKind.bits]
  have h1 : 0 ≤ k.max := by cases k <;> simp [IntKind.max, IntKind.signed, IntKind.bits]
  have h2 : (a.tmod b).natAbs = a.natAbs % b.natAbs := Int.natAbs_tmod a b
  have h3 : a.natAbs % b.natAbs ≤ a.natAbs := Nat.mod_le _ _
  have h4 : 0 ≤ a → 0 ≤ a.tmod b := fun h => Int.tmod_nonneg b h
  have h5 : a ≤ 0 → a.tmod b ≤ 0 := fun h => by
    have := Int.tmod_nonneg b (show 0 ≤ -a by omega)
    rw [Int.neg_tmod] at this
    omega
  omega
theorem plain_len {n : Nat} (h : n ≤ maxLen) : plain (.int .i64 (n : Int)) = true := by
  have h63 : (2 : Int) ^ 63 = 9223372036854775808 := by decide
  simp only [maxLen] at h
  simp [plain, IntKind.min, IntKind.max, IntKind.signed, IntKind.bits, h63]
  omega

/-- What the prover says of one operation: the element at an index; a callee's arguments and results (fresh memory: the element types of the results' slices); 'mv': a row's prefix takes the row over, or the source of an append holds no slices; the byte of a string; the bytes of a slice. -/
inductive Hint where
  | elem (e : List T)
  | call (args outs : List AV) (fr : Option (List (List (Nat × Nat))))
  | mv
  | byte (b : UInt8)
  | bytes (l : List UInt8)

def intBin (op : BinOp) (k : IntKind) (a b : Int) : Option (T × List Prop) :=
  match op with
  | .add => some (.lit (.int k (k.wrap (a + b))), [])
  | .sub => some (.lit (.int k (k.wrap (a - b))), [])
  | .mul => some (.lit (.int k (k.wrap (a * b))), [])
  | .quo => some (.lit (.int k (k.wrap (a.tdiv b))), [b ≠ 0])
  | .rem => some (.lit (.int k (a.tmod b)), [b ≠ 0])
  | .eql => some (.lit (.bool (a == b)), [])
  | .neq => some (.lit (.bool (a != b)), [])
  | .lss => some (.lit (.bool (decide (a < b))), [])
  | .leq => some (.lit (.bool (decide (a ≤ b))), [])
  | .gtr => some (.lit (.bool (decide (a > b))), [])
  | .geq => some (.lit (.bool (decide (a ≥ b))), [])
  | _ => none
def strBin (op : BinOp) (a b : ByteArray) : Option (T × List Prop) :=
  match op with
  | .add => some (.lit (.string (a ++ b)), [a.size + b.size ≤ maxLen])
  | .eql => some (.lit (.bool (a.toList == b.toList)), [])
  | .neq => some (.lit (.bool (!(a.toList == b.toList))), [])
  | _ => none
def boolBin (P : Program) (op : BinOp) (t : TypeId) (a b : Bool) : Option (T × List Prop) :=
  match op, P.underlying t with
  | .eql, some .bool => some (.lit (.bool (a == b)), [])
  | .neq, some .bool => some (.lit (.bool (!(a == b))), [])
  | _, _ => none
def tBin (P : Program) (op : BinOp) (t : TypeId) : T → T → Option (T × List Prop)
  | .lit (.int k a), .lit (.int k' b) => if k = k' then intBin op k a b else none
  | .lit (.string a), .lit (.string b) => strBin op a b
  | .lit (.bool a), .lit (.bool b) => boolBin P op t a b
  | _, _ => none
def pickOb (bc want : Bool) : Option Bool → List Prop
  | none => []
  | some g => [bc = want → g = true]
def St.box (st : St) (o : Nat) : Option (List T) :=
  match st.ob.find? fun e => e.1 == o with
  | some (_, .box cs) => some cs
  | _ => none
def St.row (st : St) (r : Nat) : Option (Nat × Nat × List (List T) × Bool) :=
  match st.ob.find? fun e => e.1 == r with
  | some (_, .row e k es deep) => some (e, k, es, deep)
  | _ => none

def vPick (st : St) (c x y : Operand) : Option (Slot × List Prop) :=
  match st.get c, st.get x, st.get y with
  | some (gc, .val (.one (.lit (.bool bc)))), some (gx, .val (.one (.lit (.bool bx)))), some (gy, .val (.one (.lit (.bool bz)))) => some (.val (.one (.lit (.bool (cond bc bx bz)))), flagOb gc ++ (pickOb bc true gx ++ pickOb bc false gy))
  | _, _, _ => none
def vLoad (P : Program) (h : Option Hint) (st : St) (t : TypeId) (p : Operand) : Option (Slot × List Prop) :=
  match st.getT p with
  | some (.ptr o off, ob) =>
    match st.box o with
    | some cs => (rdCells P t off cs).map fun x => (.val x, ob)
    | none => none
  | some (.ep e off, ob) => (rdCells P t off e).map fun x => (.val x, ob)
  | some (.rp r k i off, ob) =>
    match st.row r, h with
    | some (_, k', es, _), some (.elem el) => if k = k' then (rdCells P t off el).map fun x => (.val x, (es[i]? = some el) :: ob) else none
    | _, _ => none
  | _ => none
def vNil (st : St) (x : Operand) : Option (Slot × List Prop) :=
  match st.getT x with
  | some (.ptr o off, ob) => some (.val (.one (.ptr o off)), ob)
  | some (.ep e off, ob) => some (.val (.one (.ep e off)), ob)
  | some (.rp r k i off, ob) => some (.val (.one (.rp r k i off)), ob)
  | _ => none
def vBin (P : Program) (st : St) (op : BinOp) (t : TypeId) (x y : Operand) : Option (Slot × List Prop) :=
  match st.getT x, st.getT y with
  | some (tx, ox), some (ty, oy) => (tBin P op t tx ty).map fun r => (.val (.one r.1), ox ++ (oy ++ r.2))
  | _, _ => none
def vNot (st : St) (x : Operand) : Option (Slot × List Prop) :=
  match st.getT x with
  | some (.lit (.bool b), ob) => some (.val (.one (.lit (.bool (!b)))), ob)
  | _ => none
def vConv (P : Program) (st : St) (s d : TypeId) (x : Operand) : Option (Slot × List Prop) :=
  match st.getT x, P.underlying s, P.underlying d with
  | some (.lit (.int _ n), ob), some _, some (.int k) => some (.val (.one (.lit (.int k (k.wrap n)))), ob)
  | _, _, _ => none
def vField (P : Program) (st : St) (s : TypeId) (x : Operand) (f : Nat) : Option (Slot × List Prop) :=
  match P.underlying s with
  | some (.struct fs) =>
    match fs[f]? with
    | some fd =>
      match P.info? fd.type with
      | some i =>
        if i.size = 0 then none else
        match st.getT x with
        | some (.ptr o off, ob) => some (.val (.one (.ptr o (off + fd.offset))), ob)
        | some (.ep e off, ob) => some (.val (.one (.ep e (off + fd.offset))), ob)
        | some (.rp r k j off, ob) => some (.val (.one (.rp r k j (off + fd.offset))), ob)
        | _ => none
      | none => none
    | none => none
  | _ => none
def vIndex (P : Program) (h : Option Hint) (st : St) (t : TypeId) (x i : Operand) : Option (Slot × List Prop) :=
  match P.underlying t with
  | some (.slice e) =>
    match P.info? e, st.getT x, st.getT i with
    | some inf, some (.sl es, ox), some (.lit (.int _ n), oi) =>
      match h with
      | some (.elem el) => if el.length = inf.size then some (.val (.one (.ep el 0)), (0 ≤ n) :: (es[n.toNat]? = some el) :: (ox ++ oi)) else none
      | _ => none
    | some inf, some (.row r, ox), some (.lit (.int _ n), oi) =>
      match st.row r with
      | some (_, k, es, _) => if k = inf.size then some (.val (.one (.rp r k n.toNat 0)), (0 ≤ n) :: (n < es.length) :: (ox ++ oi)) else none
      | none => none
    | _, _, _ => none
  | _ => none
def vLen (P : Program) (st : St) (t : TypeId) (x : Operand) : Option (Slot × List Prop) :=
  match P.underlying t, st.getT x with
  | some (.slice _), some (.sl es, ob) => some (.val (.one (.lit (.int .i64 (es.length : Int)))), ob)
  | some (.slice _), some (.nil, ob) => some (.val (.one (.lit (.int .i64 0))), ob)
  | some (.slice _), some (.row r, ob) =>
    match st.row r with
    | some (_, _, es, _) => some (.val (.one (.lit (.int .i64 (es.length : Int)))), ob)
    | none => none
  | some .string, some (.lit (.string s), ob) => some (.val (.one (.lit (.int .i64 (s.size : Int)))), ob)
  | _, _ => none
def vExt (st : St) (x : Operand) (i : Nat) : Option (Slot × List Prop) :=
  match st.get x with
  | some (g, .tup xs) => xs[i]?.map fun y => (.val y, flagOb g)
  | _ => none
def vCall (P : Program) (st : St) (cl : Call) : Option (Slot × List Prop) :=
  match cl.callee, cl.args.toList, cl.argTypes.toList with
  | .builtin .len, [x], [t] => vLen P st t x
  | _, _, _ => none
def valOp (P : Program) (h : Option Hint) (st : St) : Op → Option (Slot × List Prop)
  | .move x => (st.get x).map fun r => (r.2, flagOb r.1)
  | .assign x => (st.get x).map fun r => (r.2, flagOb r.1)
  | .pick c x y => vPick st c x y
  | .load t p => vLoad P h st t p
  | .nilCheck x => vNil st x
  | .binOp op t x y _ => vBin P st op t x y
  | .unOp .not _ x => vNot st x
  | .convert s d x => vConv P st s d x
  | .fieldAddr s x f => vField P st s x f
  | .indexAddr t x i => vIndex P h st t x i
  | .call cl => vCall P st cl
  | .extract x i => vExt st x i
  | _ => none

section
variable {B : Nat} {src : Nat → Prop} {c : Cx} {ow : Nat → Option Nat} {st : St} {a : Act} {w : World} {P : Program} {o : Oper}

theorem box_mem {i : Nat} {cs : List T} (h : st.box i = some cs) : (i, .box cs) ∈ st.ob := by
  unfold St.box at h
  split at h
  · rename_i i' cs' hf
    injection h with h; subst h
    have h2 := List.find?_some hf
    simp at h2; subst h2
    exact List.mem_of_find?_eq_some hf
  · cases h
theorem row_mem {r e k : Nat} {es : List (List T)} {deep : Bool} (h : st.row r = some (e, k, es, deep)) : (r, .row e k es deep) ∈ st.ob := by
  unfold St.row at h
  split at h
  · rename_i i' e' k' es' deep' hf
    injection h with h
    injection h with e1 h; injection h with e2 h; injection h with e3 e4
    subst e1 e2 e3 e4
    have h2 := List.find?_some hf
    simp at h2; subst h2
    exact List.mem_of_find?_eq_some hf
  · cases h

theorem RelT_bool {ok : Nat → Prop} (b : Bool) : RelT c w ok (.bool b) (.lit (.bool b)) := ⟨rfl, rfl⟩
theorem RelT_int {ok : Nat → Prop} {k : IntKind} {n : Int} (h : plain (.int k n) = true) : RelT c w ok (.int k n) (.lit (.int k n)) := ⟨rfl, h⟩
theorem RelT_wrap {ok : Nat → Prop} (k : IntKind) (n : Int) : RelT c w ok (.int k (k.wrap n)) (.lit (.int k (k.wrap n))) := ⟨rfl, plain_wrap k n⟩

theorem run_v {P : Program} {s : Sem Value} {w : World} {v : Value} (h : s.run P w = .ok v w) : (do pure (Next.value (← s)) : Sem Next).run P w = .ok (.value v) w := by
  simp [h]

theorem move_sound (h : SimC B src c ow st a w) {x : Operand} {s : Slot} {obs : List Prop} (hop : o.op = .move x ∨ o.op = .assign x) (hv : (st.get x).map (fun r => (r.2, flagOb r.1)) = some (s, obs)) (ho : Ob obs) :
    ∃ v, RelS c w (okB src c st.ob) v s ∧ Gives P a w o v := by
  obtain ⟨⟨g, s'⟩, hg, he⟩ := Option.map_eq_some_iff.1 hv
  injection he with e1 e2
  subst e1 e2
  refine ⟨a.eval x, h.getOn hg ho, fun w' _ => ?_⟩
  rcases hop with hop | hop <;> simp [execOp, hop]

theorem pick_sound (h : SimC B src c ow st a w) {z x y : Operand} {s : Slot} {obs : List Prop} (hop : o.op = .pick z x y) (hv : vPick st z x y = some (s, obs)) (ho : Ob obs) :
    ∃ v, RelS c w (okB src c st.ob) v s ∧ Gives P a w o v := by
  unfold vPick at hv
  split at hv
  · rename_i gc bc gx bx gy bz hc hx hy
    injection hv with hv
    injection hv with e1 e2
    subst e1 e2
    obtain ⟨o1, o2⟩ := Ob_append ho
    obtain ⟨o2, o3⟩ := Ob_append o2
    obtain ⟨hcv, _⟩ := h.getOn hc o1
    cases bc with
    | true =>
      have hon : on gx = true := by
        cases gx with
        | none => rfl
        | some g => exact o2.1 rfl
      obtain ⟨hxv, _⟩ := (h.get hx).1 hon
      exact ⟨.bool bx, ⟨rfl, rfl⟩, fun w' _ => by simp [execOp, hop, hcv, hxv, asBool]⟩
    | false =>
      have hon : on gy = true := by
        cases gy with
        | none => rfl
        | some g => exact o3.1 rfl
      obtain ⟨hyv, _⟩ := (h.get hy).1 hon
      exact ⟨.bool bz, ⟨rfl, rfl⟩, fun w' _ => by simp [execOp, hop, hcv, hyv, asBool]⟩
  · cases hv

theorem cells_of_block {w : World} {b : Nat} {vs : List Value} {ty : TypeId} {fz : Nat × Nat} (h : w.heap[b]? = some (.cells vs.toArray ty fz)) (j : Nat) (u : Value) (hu : vs[j]? = some u) : w.cell? ⟨b, 0 + j, none⟩ = some u := by
  simp [World.cell?, h, hu]

theorem RepL.all2 {w : World} {xs : List Value} {e : List T} {F : List Nat} {ok : Nat → Prop} (h : RepL w xs e F) (hF : ∀ b ∈ F, ok b) : All2 (RelT c w ok) xs e := by
  induction xs generalizing e F with
  | nil => cases h; exact .nil
  | cons x xs ih =>
    cases h with
    | cons h hs =>
      refine .cons ?_ (ih hs fun b hb => hF b (List.mem_append_right _ hb))
      cases h with
      | lit hp => exact ⟨rfl, hp⟩
      | nil hc => exact ⟨[], .nil hc, by simp⟩
      | cons hn h0 hk0 hk hc hm hx hcell hr => exact ⟨_, .cons hn h0 hk0 hk hc hm hx hcell hr, fun b hb => hF b (List.mem_append_left _ hb)⟩

theorem run_loadAt {P : Program} {t : TypeId} {ad : Addr} {v : Value} {w : World} (h : (loadVar t ad).run P w = .ok v w) : (Instr.loadAt t (.pointer (some ad))).run P w = .ok v w := by
  simp [Instr.loadAt, Instr.sureAddr, h]

theorem row_elem {ok : Nat → Prop} {r e k : Nat} {es : List (List T)} {deep : Bool} (h : RowOk B c ow w ok r e k es deep) {i : Nat} {el : List T} (hi : es[i]? = some el) {g n cap : Nat} (hv : c.rv r = .slice (some ⟨g, 0, none⟩) n cap) :
    ∃ (xs : List Value) (F : List Nat), RepL w xs el F ∧ (∀ b ∈ F, ok b) ∧ (∀ j u, xs[j]? = some u → w.cell? ⟨g, i * k + j, none⟩ = some u) ∧ g < w.heap.size := by
  obtain ⟨h0, h1, h2, xs, F, h3, h4, h5, _⟩ := h
  have hle : (i + 1) * k ≤ es.length * k := Nat.mul_le_mul_right _ (by have := (List.getElem?_eq_some_iff.1 hi).1; omega)
  obtain ⟨G, H, g1, g2, g3⟩ := h4.take (i * k)
  obtain ⟨G', H', g4, g5, g6⟩ := g2.take k
  rw [flatten_get h1 hi] at g4
  refine ⟨_, G', g4, fun b hb => h5 b (by rw [g3, g6]; simp [hb]), fun j u hu => ?_, (ownsRow_lt h3 (g := g) (by simp [hv, Value.ownBlock])).1⟩
  have hj : xs[i * k + j]? = some u := by
    rw [List.getElem?_take] at hu
    split at hu
    · rw [List.getElem?_drop] at hu; exact hu
    · cases hu
  obtain ⟨hxl, hr⟩ := h3
  rcases hr with ⟨hn, _⟩ | ⟨g', cap', cur, hv', hB, hh, hnc, hcm, hsz, htk⟩
  · rw [hv] at hn; cases hn
  · rw [hv] at hv'
    injection hv' with e1 e2 e3
    injection e1 with e1
    injection e1 with e1 _ _
    subst e1
    have hlt : i * k + j < es.length * k := by
      have := (List.getElem?_eq_some_iff.1 hj).1
      omega
    rw [← htk, List.getElem?_take, if_pos hlt] at hj
    simp only [World.cell?, hh]
    simpa using hj

theorem load_sound (h : SimC B src c ow st a w) {hn : Option Hint} {t : TypeId} {p : Operand} {s : Slot} {obs : List Prop} (hop : o.op = .load t p) (hv : vLoad P hn st t p = some (s, obs)) (ho : Ob obs) :
    ∃ v, RelS c w (okB src c st.ob) v s ∧ Gives P a w o v := by
  unfold vLoad at hv
  split at hv
  · rename_i i off ob hp
    split at hv
    · rename_i cs hb
      obtain ⟨x, hx, he⟩ := Option.map_eq_some_iff.1 hv
      injection he with e1 e2
      subst e1 e2
      have hpv : a.eval p = .pointer (some ⟨c.loc i, off, none⟩) := h.getT hp ho
      have hbx : BoxOk B c ow w (okB src c st.ob) i cs := h.ob _ _ (box_mem hb)
      have hlt := hbx.lt
      obtain ⟨_, _, vs, ty, hh, ha⟩ := hbx
      obtain ⟨v, hr, hl⟩ := rdCells_sound hx ha
      refine ⟨v, hr, fun w' hw' => ?_⟩
      have h1 := hl w' (c.loc i) 0 (cells_of_block ((hw' _ hlt).trans hh))
      rw [Nat.zero_add] at h1
      simp only [execOp, hop, hpv]
      exact run_v (run_loadAt h1)
    · cases hv
  · rename_i e off ob hp
    obtain ⟨x, hx, he⟩ := Option.map_eq_some_iff.1 hv
    injection he with e1 e2
    subst e1 e2
    obtain ⟨b, base, hpv, hb, hlt, xs, F, hr, hc, hF⟩ := h.getT hp ho
    obtain ⟨v, hrv, hl⟩ := rdCells_sound hx (hr.all2 hF)
    refine ⟨v, hrv, fun w' hw' => ?_⟩
    have h1 := hl w' b base fun j u hu => (World.cell?_of_block (hw' b hlt)).trans (hc j u hu)
    simp only [execOp, hop, hpv]
    exact run_v (run_loadAt h1)
  · rename_i r k i off ob hp
    split at hv
    · rename_i e k' es deep el hrow
      split at hv
      · rename_i hk
        subst hk
        obtain ⟨x, hx, he⟩ := Option.map_eq_some_iff.1 hv
        injection he with e1 e2
        subst e1 e2
        obtain ⟨g, n, cap, hrv, hpv⟩ := h.getT hp ho.2
        obtain ⟨xs, F, hr, hF, hc, hlt⟩ := row_elem (h.ob _ _ (row_mem hrow)) ho.1 hrv
        obtain ⟨v, hvr, hl⟩ := rdCells_sound hx (hr.all2 hF)
        refine ⟨v, hvr, fun w' hw' => ?_⟩
        have h1 := hl w' g (i * k) fun j u hu => (World.cell?_of_block (hw' g hlt)).trans (hc j u hu)
        simp only [execOp, hop, hpv]
        exact run_v (run_loadAt h1)
      · cases hv
    · cases hv
  · cases hv

theorem nil_sound (h : SimC B src c ow st a w) {x : Operand} {s : Slot} {obs : List Prop} (hop : o.op = .nilCheck x) (hv : vNil st x = some (s, obs)) (ho : Ob obs) :
    ∃ v, RelS c w (okB src c st.ob) v s ∧ Gives P a w o v := by
  unfold vNil at hv
  split at hv <;> first | (cases hv; done) | skip
  all_goals
    rename_i hx
    injection hv with hv
    injection hv with e1 e2
    subst e1 e2
    have hr := h.getT hx ho
    refine ⟨a.eval x, hr, fun w' _ => ?_⟩
  · have he : a.eval x = _ := hr
    simp [execOp, hop, he]
  · obtain ⟨b, base, he, _⟩ := hr
    simp [execOp, hop, he]
  · obtain ⟨g, n, cap, _, he⟩ := hr
    simp [execOp, hop, he]

theorem run_eqGuard_plain {op : BinOp} {t : TypeId} {x y : Operand} {u v : Value} (hu : plain u = true) (w : World) : (eqGuard op t x y u v).run P w = .ok () w := by
  cases op <;> cases u <;> first | (simp [plain] at hu; done) | (simp [eqGuard]; done)

theorem bin_sound (h : SimC B src c ow st a w) {op : BinOp} {t t' : TypeId} {x y : Operand} {s : Slot} {obs : List Prop} (hop : o.op = .binOp op t x y t') (hv : vBin P st op t x y = some (s, obs)) (ho : Ob obs) :
    ∃ v, RelS c w (okB src c st.ob) v s ∧ Gives P a w o v := by
  unfold vBin at hv
  split at hv
  · rename_i tx ox ty oy hx hy
    obtain ⟨⟨r, ro⟩, hr, he⟩ := Option.map_eq_some_iff.1 hv
    injection he with e1 e2
    subst e1 e2
    obtain ⟨o1, o2⟩ := Ob_append ho
    obtain ⟨o2, o3⟩ := Ob_append o2
    have rx := h.getT hx o1
    have ry := h.getT hy o2
    suffices hs : ∃ v, RelT c w (okB src c st.ob) v r ∧ ∀ w', (binOp op t (a.eval x) (a.eval y)).run P w' = .ok v w' ∧ plain (a.eval x) = true by
      obtain ⟨v, hvr, hrun⟩ := hs
      refine ⟨v, hvr, fun w' _ => ?_⟩
      simp only [execOp, hop]
      simp [run_eqGuard_plain (P := P) (hrun w').2, (hrun w').1]
    unfold tBin at hr
    split at hr
    · rename_i k m k' n
      split at hr
      · rename_i hk
        subst hk
        obtain ⟨ex, px⟩ := rx
        obtain ⟨ey, py⟩ := ry
        rw [ex, ey]
        unfold intBin at hr
        split at hr <;> first | (cases hr; done) | skip
        all_goals
          injection hr with hr
          injection hr with e1 e2
          subst e1 e2
        · exact ⟨_, RelT_wrap _ _, fun w' => ⟨by simp [binOp, Op.intArith], px⟩⟩
        · exact ⟨_, RelT_wrap _ _, fun w' => ⟨by simp [binOp, Op.intArith], px⟩⟩
        · exact ⟨_, RelT_wrap _ _, fun w' => ⟨by simp [binOp, Op.intArith], px⟩⟩
        · exact ⟨_, RelT_wrap _ _, fun w' => ⟨by simp [binOp, Op.intDiv, o3.1], px⟩⟩
        · exact ⟨_, RelT_int (plain_tmod px), fun w' => ⟨by simp [binOp, Op.intDiv, o3.1], px⟩⟩
        all_goals exact ⟨_, RelT_bool _, fun w' => ⟨by simp [binOp, Op.intCmp], px⟩⟩
      · cases hr
    · rename_i sa sb
      obtain ⟨ex, px⟩ := rx
      obtain ⟨ey, py⟩ := ry
      rw [ex, ey]
      unfold strBin at hr
      split at hr <;> first | (cases hr; done) | skip
      all_goals
        injection hr with hr
        injection hr with e1 e2
        subst e1 e2
      · have hsz : sa.size + sb.size ≤ 9223372036854775807 := by have := o3.1; simp only [maxLen] at this; omega
        refine ⟨.string (sa ++ sb), ⟨rfl, ?_⟩, fun w' => ⟨?_, px⟩⟩
        · simp only [plain, decide_eq_true_eq]
          have : (sa ++ sb).size = sa.size + sb.size := by simp
          rw [this]
          exact o3.1
        · have hh : ¬ ((sa.size + sb.size : Nat) : Int) > IntKind.i64.max := by
            simp only [IntKind.max, IntKind.signed, IntKind.bits]
            have h63 : (2 : Int) ^ 63 = 9223372036854775808 := by decide
            simp [h63]
            omega
          simp only [binOp, Op.stringOp]
          rw [if_neg hh]
          rfl
      · exact ⟨_, RelT_bool _, fun w' => ⟨by simp [binOp, Op.stringOp], px⟩⟩
      · exact ⟨_, RelT_bool _, fun w' => ⟨by simp [binOp, Op.stringOp], px⟩⟩
    · rename_i ba bb
      obtain ⟨ex, px⟩ := rx
      obtain ⟨ey, py⟩ := ry
      rw [ex, ey]
      unfold boolBin at hr
      split at hr
      · rename_i hu
        injection hr with hr
        injection hr with e1 e2
        subst e1 e2
        exact ⟨_, RelT_bool _, fun w' => ⟨by simp [binOp, Op.equal, Op.maxDepth, run_equalIn_bool' w' _ t ba bb hu], px⟩⟩
      · rename_i hu
        injection hr with hr
        injection hr with e1 e2
        subst e1 e2
        exact ⟨_, RelT_bool _, fun w' => ⟨by simp [binOp, Op.equal, Op.maxDepth, run_equalIn_bool' w' _ t ba bb hu], px⟩⟩
      · cases hr
    · cases hr
  · cases hv
end
end Go.Ab
