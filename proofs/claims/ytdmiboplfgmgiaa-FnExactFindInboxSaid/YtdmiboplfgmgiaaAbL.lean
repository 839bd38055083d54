/-
  More value operations, the rest of them, and their join. Over any program. Conditions: the obligations that the abstract operations list.
-/
import Derived.Test.YtdmiboplfgmgiaaAbK
namespace Go.Ab
open Go.RowKit
section
variable {B : Nat} {src : Nat → Prop} {c : Cx} {ow : Nat → Option Nat} {st : St} {a : Act} {w : World} {P : Program} {o : Oper}

theorem bnd_sound (h : SimC B src c ow st a w) {dflt : Int} {x : Option Operand} {n : Int} {os : List Prop} (hb : bndOf st dflt x = some (n, os)) (ho : Ob os) : (x = none ∧ n = dflt) ∨ ∃ y k, x = some y ∧ a.eval y = .int k n := by
  cases x with
  | none => injection hb with hb; injection hb with e1 e2; exact .inl ⟨rfl, e1.symm⟩
  | some y =>
    simp only [bndOf] at hb
    split at hb
    · rename_i k n' o' hg
      injection hb with hb; injection hb with e1 e2; subst e1 e2
      exact .inr ⟨y, k, rfl, (h.getT hg ho).1⟩
    · cases hb

/-- The bounds of a slice expression, as the model reads them. -/
theorem bounds_run (h : SimC B src c ow st a w) {sl : Bool} {len cap : Nat} (hlc : len ≤ cap) {lo hi : Option Operand} {l u : Int} {o1 o2 : List Prop} (h1 : bndOf st 0 lo = some (l, o1)) (h2 : bndOf st (len : Int) hi = some (u, o2)) (p1 : Ob o1) (p2 : Ob o2) (hl : 0 ≤ l) (hlu : l ≤ u) (hu : u ≤ len) (w' : World) :
    (Instr.sliceBounds sl len cap (lo.map a.eval) (hi.map a.eval) none).run P w' = .ok (l.toNat, u.toNat, cap) w' := by
  have hhi : ∀ w' : World, (match hi.map a.eval, (none : Option Value) with
      | some v, some _ => Instr.sliceBound v cap .slice3B
      | some v, none => Instr.sliceBound v cap (if sl then .sliceAcap else .sliceAlen)
      | none, none => pure len
      | none, some _ => stuck "Slice: max without high" : Sem Nat).run P w' = .ok u.toNat w' := by
    intro w'
    rcases bnd_sound h h2 p2 with ⟨rfl, rfl⟩ | ⟨y, k, rfl, hy⟩
    · simp
    · simp only [Option.map_some, hy, Instr.sliceBound, asIntOf, Sem.run_bind, Sem.run_pure, Result.andThen_ok]
      rw [if_pos (by omega)]
      rfl
  have hlo : ∀ w' : World, (match lo.map a.eval with
      | some v => Instr.sliceBound v u.toNat .sliceB
      | none => pure 0 : Sem Nat).run P w' = .ok l.toNat w' := by
    intro w'
    rcases bnd_sound h h1 p1 with ⟨rfl, rfl⟩ | ⟨y, k, rfl, hy⟩
    · simp
    · simp only [Option.map_some, hy, Instr.sliceBound, asIntOf, Sem.run_bind, Sem.run_pure, Result.andThen_ok]
      rw [if_pos (by omega)]
      rfl
  unfold Instr.sliceBounds
  simp only [Sem.run_bind, Sem.run_pure, Result.andThen_ok]
  have e1 := hhi w'
  have e2 := hlo w'
  cases hi with
  | none =>
    simp only [Option.map_none, Sem.run_pure] at e1
    injection e1 with e1
    cases lo with
    | none =>
      simp only [Option.map_none, Sem.run_pure] at e2
      injection e2 with e2
      simp [e1, ← e2]
    | some y => simp only [Option.map_some] at e2; simp [e1, e2]
  | some z =>
    simp only [Option.map_some] at e1
    cases lo with
    | none =>
      simp only [Option.map_none, Sem.run_pure] at e2
      injection e2 with e2
      simp [e1, ← e2]
    | some y => simp only [Option.map_some] at e2; simp [e1, e2]

theorem Rep.cut {v : Value} {es : List (List T)} {F : List Nat} (h : Rep w v (.sl es) F) {k l n : Nat} (hk : ∀ z ∈ es, z.length = k) (hn : l + n ≤ es.length) :
    ∃ ad len cap, v = .slice ad len cap ∧ len = es.length ∧ len ≤ cap ∧ cap ≤ maxLen ∧ ∃ G, Rep w (.slice (if cap = l then ad else ad.map (·.add (l * k))) n (cap - l)) (.sl ((es.drop l).take n)) G ∧ ∀ b ∈ G, b ∈ F := by
  cases h with
  | @nil ad cap hc =>
    refine ⟨ad, 0, cap, rfl, rfl, Nat.zero_le _, hc, [], ?_, by simp⟩
    have : n = 0 := by simp at hn; omega
    subst this
    simpa using Rep.nil (w := w) (a := if cap = l then ad else ad.map (·.add (l * k))) (c := cap - l) (Nat.le_trans (Nat.sub_le _ _) hc)
  | @cons b off len cap k' es xs F hl h0 hk0 hk' hc hm hx hcell hr =>
    refine ⟨some ⟨b, off, none⟩, len, cap, rfl, hl.symm, hc, hm, ?_⟩
    have hkk : k' = k := by
      obtain ⟨x, hx'⟩ := List.exists_mem_of_length_pos (l := es) (by omega)
      rw [← hk' x hx', hk x hx']
    subst hkk
    rcases Nat.eq_zero_or_pos n with h0' | h0'
    · subst h0'
      refine ⟨[], ?_, by simp⟩
      simpa using Rep.nil (w := w) (a := if cap = l then some ⟨b, off, none⟩ else (some (⟨b, off, none⟩ : Addr)).map (·.add (l * k'))) (c := cap - l) (Nat.le_trans (Nat.sub_le _ _) hm)
    · obtain ⟨F1, F2, F3, a1, a2, a3, a4⟩ := hr.parts (l * k') (n * k')
      have hfl : ((es.flatten.drop (l * k')).take (n * k')) = ((es.drop l).take n).flatten := by
        have hd : ∀ (es : List (List T)) (l : Nat), (∀ z ∈ es, z.length = k') → es.flatten.drop (l * k') = (es.drop l).flatten := by
          intro es
          induction es with
          | nil => intro l _; simp
          | cons e es ih =>
            intro l hk
            cases l with
            | zero => simp
            | succ l =>
              have he : e.length = k' := hk e (List.mem_cons_self ..)
              rw [List.flatten_cons, List.drop_succ_cons, ← ih l (fun z hz => hk z (List.mem_cons_of_mem _ hz))]
              have : (l + 1) * k' = e.length + l * k' := by rw [Nat.succ_mul, he]; omega
              rw [this, List.drop_length_add_append]
        have ht : ∀ (es : List (List T)) (n : Nat), (∀ z ∈ es, z.length = k') → es.flatten.take (n * k') = (es.take n).flatten := by
          intro es
          induction es with
          | nil => intro n _; simp
          | cons e es ih =>
            intro n hk
            cases n with
            | zero => simp
            | succ n =>
              have he : e.length = k' := hk e (List.mem_cons_self ..)
              rw [List.flatten_cons, List.take_succ_cons, List.flatten_cons, ← ih n (fun z hz => hk z (List.mem_cons_of_mem _ hz))]
              have : (n + 1) * k' = e.length + n * k' := by rw [Nat.succ_mul, he]; omega
              rw [this, List.take_length_add_append]
        rw [hd es l hk', ht _ n (fun z hz => hk' z (List.mem_of_mem_drop hz))]
      rw [hfl] at a2
      have hcap : ¬ cap = l := by omega
      rw [if_neg hcap]
      refine ⟨b :: F2, ?_, fun x hx' => ?_⟩
      · simp only [Option.map_some, add_eq]
        refine .cons (by simp; omega) h0' hk0 (fun z hz => hk' z (List.mem_of_mem_drop (List.mem_of_mem_take hz))) (by omega) (Nat.le_trans (Nat.sub_le _ _) hm) ?_ (fun j u hu => ?_) a2
        · rw [a2.length, flatten_length (k := k') (fun z hz => hk' z (List.mem_of_mem_drop (List.mem_of_mem_take hz)))]
          congr 1
          simp
          omega
        · have hj : xs[l * k' + j]? = some u := by
            rw [List.getElem?_take] at hu
            split at hu
            · rw [List.getElem?_drop] at hu; exact hu
            · cases hu
          have := hcell _ u hj
          rw [Nat.add_assoc]
          exact this
      · rcases List.mem_cons.1 hx' with rfl | hx'
        · exact List.mem_cons_self ..
        · rw [a4]; exact List.mem_cons_of_mem _ (List.mem_append_right _ (List.mem_append_left _ hx'))

theorem slice_sound (h : SimC B src c ow st a w) {t : TypeId} {x : Operand} {lo hi : Option Operand} {s : Slot} {obs : List Prop} (hop : o.op = .slice t x lo hi none) (hv : vSlice P st t x lo hi = some (s, obs)) (ho : Ob obs) : ∃ v, RelS c w (okB src c st.ob) v s ∧ Gives P a w o v := by
  unfold vSlice at hv
  split at hv
  · rename_i e es ox ht hx
    split at hv
    · rename_i i l o1 u o2 hi' h1 h2
      injection hv with hv
      injection hv with e1 e2
      subst e1 e2
      obtain ⟨p1, p2, p3, p4, p5⟩ := ho
      obtain ⟨p5, p6⟩ := Ob_append p5
      obtain ⟨p6, p7⟩ := Ob_append p6
      obtain ⟨F, hr, hF⟩ := h.getT hx p5
      obtain ⟨ad, len, cap, hve, hlen, hlc, hcm, G, g1, g2⟩ := hr.cut (l := l.toNat) (n := (u - l).toNat) p4 (by omega)
      subst hlen
      refine ⟨_, ⟨G, g1, fun b hb => hF b (g2 b hb)⟩, fun w' _ => ?_⟩
      have hbr := bounds_run (P := P) (sl := true) h hlc h1 h2 p6 p7 p1 p2 p3 w'
      simp only [execOp, hop, hve]
      refine run_v ?_
      have hsub : u.toNat - l.toNat = (u - l).toNat := by omega
      simp only [Instr.sliceAt, Sem.run_bind, run_underlying ht, Result.andThen_ok, Instr.slice, Option.map_none, hbr, run_sizeOf hi', hsub]
      rfl
    · cases hv
  · rename_i sb ox ht hx
    split at hv
    · rename_i l o1 u o2 h1 h2
      injection hv with hv
      injection hv with e1 e2
      subst e1 e2
      obtain ⟨p1, p2, p3, p5⟩ := ho
      obtain ⟨p5, p6⟩ := Ob_append p5
      obtain ⟨p6, p7⟩ := Ob_append p6
      obtain ⟨hve, hp⟩ := h.getT hx p5
      have hsz : sb.size ≤ maxLen := by simpa [plain] using hp
      refine ⟨.string (sb.extract l.toNat u.toNat), ⟨rfl, ?_⟩, fun w' _ => ?_⟩
      · simp only [plain, decide_eq_true_eq, ByteArray.size_extract]
        omega
      · have hbr := bounds_run (P := P) (sl := false) h (Nat.le_refl sb.size) h1 h2 p6 p7 p1 p2 p3 w'
        simp only [execOp, hop, hve]
        refine run_v ?_
        simp only [Instr.sliceAt, Sem.run_bind, run_underlying ht, Result.andThen_ok, Instr.slice, Option.map_none, Option.isSome_none, Bool.false_eq_true, if_false, Sem.run_pure, hbr]
    · cases hv
  · cases hv

theorem eqLit_sound {t : TypeId} {x y : T} {b : Bool} {u v : Value} {ok : Nat → Prop} (h : eqLit P t x y = some b) (hx : RelT c w ok u x) (hy : RelT c w ok v y) : (∀ (d : Nat) (w' : World), (Op.equalIn (d + 1) t u v).run P w' = .ok b w') ∧ (∀ w' : World, (isAgg t).run P w' = .ok false w') := by
  unfold eqLit at h
  split at h
  · split at h
    · rename_i k' hu
      split at h
      · rename_i hk
        subst hk
        injection h with h
        subst h
        obtain ⟨rfl, _⟩ := hx
        obtain ⟨rfl, _⟩ := hy
        exact ⟨fun d w' => run_equalIn_int w' d t _ _ _ _ hu, run_isAgg_other hu (by simp) (by simp)⟩
      · cases h
    · cases h
  · split at h
    · rename_i hu
      injection h with h
      subst h
      obtain ⟨rfl, _⟩ := hx
      obtain ⟨rfl, _⟩ := hy
      exact ⟨fun d w' => run_equalIn_bool' w' d t _ _ hu, run_isAgg_other hu (by simp) (by simp)⟩
    · cases h
  · split at h
    · rename_i hu
      injection h with h
      subst h
      obtain ⟨rfl, _⟩ := hx
      obtain ⟨rfl, _⟩ := hy
      exact ⟨fun d w' => run_equalIn_string w' d t _ _ hu, run_isAgg_other hu (by simp) (by simp)⟩
    · cases h
  · cases h

theorem eqFs_sound {xs ys : List T} {us vs : List Value} {ok : Nat → Prop} (hx : All2 (RelT c w ok) us xs) (hy : All2 (RelT c w ok) vs ys) : ∀ {fs : List Field} {b : Bool}, eqFs P xs ys fs = some b → ∀ (d : Nat) (w' : World), (Op.eqFields (d + 1) us.toArray vs.toArray fs).run P w' = .ok b w' := by
  intro fs
  induction fs with
  | nil => intro b h d w'; injection h with h; subst h; simp [Op.eqFields]
  | cons f fs ih =>
    intro b h d w'
    unfold eqFs at h
    split at h
    · rename_i x y h1 h2
      split at h
      · rename_i b1 r h3 h4
        split at h
        · cases h
        · rename_i hname
          injection h with h
          subst h
          obtain ⟨u, hu, ru⟩ := hx.get h1
          obtain ⟨v, hv, rv⟩ := hy.get h2
          obtain ⟨q1, q2⟩ := eqLit_sound h3 ru rv
          have hp1 : ∀ w' : World, (part f.type us.toArray f.offset).run P w' = .ok u w' := by
            intro w'
            simp only [part, Sem.run_bind, q2 w', Result.andThen_ok, Bool.false_eq_true, if_false]
            simp [hu]
          have hp2 : ∀ w' : World, (part f.type vs.toArray f.offset).run P w' = .ok v w' := by
            intro w'
            simp only [part, Sem.run_bind, q2 w', Result.andThen_ok, Bool.false_eq_true, if_false]
            simp [hv]
          unfold Op.eqFields
          rw [if_pos hname]
          simp only [Sem.run_bind, hp1, hp2, q1, Result.andThen_ok]
          cases b1 with
          | true => simp only [Bool.not_true, Bool.false_eq_true, if_false, Bool.true_and]; exact ih h4 d w'
          | false => simp
      · cases h
    · cases h

theorem eq_sound (h : SimC B src c ow st a w) {op : BinOp} {t t' : TypeId} {x y : Operand} {s : Slot} {obs : List Prop} (hop : o.op = .binOp op t x y t') (hv : vEq P st op t x y = some (s, obs)) (ho : Ob obs) : ∃ v, RelS c w (okB src c st.ob) v s ∧ Gives P a w o v := by
  unfold vEq at hv
  split at hv
  · rename_i fs gx xs gy ys ht hx hy
    have hfo : P.fieldsOf t = fs := by simp [Program.fieldsOf, ht]
    split at hv
    all_goals first | (cases hv; done) | skip
    all_goals
      rename_i b hb
      injection hv with hv
      injection hv with e1 e2
      subst e1 e2
      obtain ⟨p1, p2, p3⟩ := ho
      obtain ⟨p3, p4⟩ := Ob_append p3
      obtain ⟨us, hus, hax⟩ := h.getOn hx p3
      obtain ⟨vs, hvs, hay⟩ := h.getOn hy p4
      have hrun : ∀ w' : World, (Op.equalIn 10000 t (.agg us.toArray) (.agg vs.toArray)).run P w' = .ok b w' := by
        intro w'
        rw [run_equalIn_struct w' 9999 t _ _ (by rw [hfo]; exact ht) p1, hfo]
        exact eqFs_sound hax hay hb 9998 w'
      refine ⟨_, ⟨rfl, rfl⟩, fun w' _ => ?_⟩
      simp only [execOp, hop, hus, hvs]
    · simp [run_eqGuard_agg (P := P) w' _ t x y _ _ p2, run_eql_struct, hrun]
    · simp [run_eqGuard_agg (P := P) w' _ t x y _ _ p2, run_neq_struct, hrun]
  · cases hv

theorem mm_sound (h : SimC B src c ow st a w) {mx : Bool} {cl : Call} {x y : Operand} {s : Slot} {obs : List Prop} (hop : o.op = .call cl) (hcal : cl.callee = .builtin (if mx then .max else .min)) (hargs : cl.args.toList = [x, y]) (hv : vMM st mx x y = some (s, obs)) (ho : Ob obs) : ∃ v, RelS c w (okB src c st.ob) v s ∧ Gives P a w o v := by
  unfold vMM at hv
  split at hv
  · rename_i k m ox k' n oy hx hy
    split at hv
    · rename_i hk
      subst hk
      injection hv with hv
      injection hv with e1 e2
      subst e1 e2
      obtain ⟨p1, p2⟩ := Ob_append ho
      obtain ⟨ex, px⟩ := h.getT hx p1
      obtain ⟨ey, py⟩ := h.getT hy p2
      have ha : cl.args = #[x, y] := by
        apply Array.toList_inj.1
        simpa using hargs
      refine ⟨.int k (if mx then (if n > m then n else m) else (if n < m then n else m)), ⟨rfl, ?_⟩, fun w' _ => ?_⟩
      · cases mx <;> simp only [Bool.false_eq_true, if_false, if_true] <;> split <;> assumption
      · cases mx
        · simp [execOp, hop, resolve, hcal, ha, invoke, builtin, ex, ey, Builtin.min_, Builtin.min2]
        · simp [execOp, hop, resolve, hcal, ha, invoke, builtin, ex, ey, Builtin.max_, Builtin.max2]
    · cases hv
  · cases hv

theorem plain_byte (b : UInt8) : plain (.int .u8 (b.toNat : Int)) = true := by
  have := b.toNat_lt
  simp [plain, IntKind.min, IntKind.max, IntKind.signed, IntKind.bits]
  omega

theorem idx_sound (h : SimC B src c ow st a w) {hn : Option Hint} {t : TypeId} {x i : Operand} {s : Slot} {obs : List Prop} (hop : o.op = .index t x i) (hv : vIdx P hn st t x i = some (s, obs)) (ho : Ob obs) : ∃ v, RelS c w (okB src c st.ob) v s ∧ Gives P a w o v := by
  unfold vIdx at hv
  split at hv
  · rename_i g sb kd n oi ht hx hi
    split at hv
    · rename_i b
      injection hv with hv
      injection hv with e1 e2
      subst e1 e2
      obtain ⟨p1, p2, p3⟩ := ho
      obtain ⟨p3, p4⟩ := Ob_append p3
      obtain ⟨ex, _⟩ := h.getOn hx p3
      obtain ⟨ei, _⟩ := h.getT hi p4
      refine ⟨.int .u8 (b.toNat : Int), ⟨rfl, plain_byte b⟩, fun w' _ => ?_⟩
      simp only [execOp, hop, ex, ei]
      refine run_v ?_
      simp [Instr.index, asIntOf, run_underlying ht, p1, p2]
    · cases hv
  · rename_i len e g ts kd n oi ht hx hi
    split at hv
    · rename_i y inf d hinf hd
      split at hv
      · rename_i hc
        obtain ⟨c1, c2⟩ := hc
        injection hv with hv
        injection hv with e1 e2
        subst e1 e2
        obtain ⟨p1, p2, p3, p4⟩ := ho
        obtain ⟨p4, p5⟩ := Ob_append p4
        obtain ⟨vs, hve, ha⟩ := h.getOn hx p4
        obtain ⟨ei, _⟩ := h.getT hi p5
        obtain ⟨v, hv', hr⟩ := ha.get p3
        have hagg := run_isAgg_other hd (fun fs he => by subst he; cases c2) (fun n e' he => by subst he; cases c2)
        refine ⟨v, hr, fun w' _ => ?_⟩
        simp only [execOp, hop, hve, ei]
        refine run_v ?_
        simp only [Instr.index, asIntOf, Sem.run_bind, Sem.run_pure, Result.andThen_ok, run_underlying ht]
        rw [if_pos ⟨p1, p2⟩]
        simp only [Sem.run_bind, run_sizeOf hinf, Result.andThen_ok, c1, part, hagg w', Bool.false_eq_true, if_false, Nat.mul_one]
        simp [hv']
      · cases hv
    · cases hv
  · cases hv

theorem foldl_push (l : List UInt8) : ∀ s : ByteArray, (l.map fun b => (b.toNat : Int)).foldl (fun (r : ByteArray) (n : Int) => r.push (UInt8.ofNat n.toNat)) s = ⟨s.data ++ l.toArray⟩ := by
  induction l with
  | nil => intro s; simp
  | cons b l ih =>
    intro s
    rw [List.map_cons, List.foldl_cons, ih]
    simp [ByteArray.push]

theorem repL_bytes {l : List UInt8} : ∀ {xs : List Value} {F : List Nat}, RepL w xs (bytesT l).flatten F → xs = l.map fun b => Value.int .u8 (b.toNat : Int) := by
  induction l with
  | nil =>
    intro xs F h
    have : xs.length = 0 := by simpa [bytesT] using h.length
    exact List.length_eq_zero_iff.1 this
  | cons b l ih =>
    intro xs F h
    have he : (bytesT (b :: l)).flatten = .lit (.int .u8 (b.toNat : Int)) :: (bytesT l).flatten := rfl
    rw [he] at h
    cases h with
    | cons h1 h2 =>
      cases h1
      rw [ih h2]
      rfl

theorem str_sound (h : SimC B src c ow st a w) {hn : Option Hint} {t d : TypeId} {x : Operand} {s : Slot} {obs : List Prop} (hop : o.op = .convert t d x) (hv : vStr P hn st t d x = some (s, obs)) (ho : Ob obs) : ∃ v, RelS c w (okB src c st.ob) v s ∧ Gives P a w o v := by
  unfold vStr at hv
  split at hv
  · rename_i e ht hd
    split at hv
    · rename_i es ox l he hx
      injection hv with hv
      injection hv with e1 e2
      subst e1 e2
      obtain ⟨p1, p2⟩ := ho
      subst p1
      obtain ⟨F, hr, hF⟩ := h.getT hx p2
      obtain ⟨ad0, cap0, hve0, hmax⟩ := hr.len
      refine ⟨.string ⟨l.toArray⟩, ⟨rfl, ?_⟩, fun w' hw' => ?_⟩
      · simp only [plain, decide_eq_true_eq]
        show l.toArray.size ≤ maxLen
        simpa [bytesT] using hmax
      · simp only [execOp, hop]
        refine run_v ?_
        have hr' : Rep w' (a.eval x) (.sl (bytesT l)) F := hr.frame fun b hb => hw' b (hr.lt b hb)
        generalize a.eval x = v at hr'
        cases hl : l with
        | nil =>
          subst hl
          have hb : bytesT [] = [] := rfl
          rw [hb] at hr'
          cases hr' with
          | @nil A cc hc =>
            rw [run_convert_bytes_string w' t d e A 0 cc ht he hd]
            cases A with
            | none => simp [Conv.bytesToString]; rfl
            | some ad =>
              have h0 : (loadCells ad 0).run P w' = .ok (([] : List Int).map (Value.int .u8)).toArray w' := by simp [loadCells, loadCellsFrom]
              rw [run_bytesToString w' ad 0 cc [] h0]
              rfl
          | cons hn h0 _ _ _ _ _ _ _ => simp at hn; omega
        | cons b0 l0 =>
          rw [← hl]
          generalize hbt : bytesT l = es at hr'
          cases hr' with
          | nil hc => rw [hl] at hbt; simp [bytesT] at hbt
          | @cons b off n cc k es' xs F' hn' h0 hk0 hk hc hm hxl hcell hrl =>
            subst hbt
            have hxs := repL_bytes hrl
            have hnl : n = l.length := by rw [← hn']; simp [bytesT]
            rw [run_convert_bytes_string w' t d e _ n cc ht he hd]
            have hload : (loadCells ⟨b, off, none⟩ n).run P w' = .ok ((l.map fun b => (b.toNat : Int)).map (Value.int .u8)).toArray w' := by
              have := run_loadCells_list (P := P) w' ⟨b, off, none⟩ xs (fun j u hu => by rw [add_eq]; exact hcell j u hu)
              rw [hxs] at this
              have hlen : (l.map fun b => Value.int .u8 (b.toNat : Int)).length = n := by simp [hnl]
              rw [hlen] at this
              rw [this, List.map_map]
              rfl
            rw [run_bytesToString w' _ n cc _ hload, foldl_push]
            simp [ByteArray.empty, ByteArray.emptyWithCapacity]
            rfl
    · rename_i ox he hx
      injection hv with hv
      injection hv with e1 e2
      subst e1 e2
      have hve : a.eval x = .slice none 0 0 := h.getT hx ho
      refine ⟨.string ⟨#[]⟩, ⟨rfl, by decide⟩, fun w' _ => ?_⟩
      simp only [execOp, hop, hve]
      refine run_v ?_
      rw [run_convert_bytes_string w' t d e none 0 0 ht he hd]
      simp [Conv.bytesToString]
      rfl
    · cases hv
  · cases hv

theorem valOp2_sound (h : SimC B src c ow st a w) {hn : Option Hint} {s : Slot} {obs : List Prop} (hv : valOp2 P hn st o.op = some (s, obs)) (ho : Ob obs) : ∃ v, RelS c w (okB src c st.ob) v s ∧ Gives P a w o v := by
  cases hop : o.op with
  | field t x f => rw [hop] at hv; exact fieldV_sound h hop hv ho
  | build t ps => rw [hop] at hv; exact build_sound h hop hv ho
  | slice t x lo hi mx =>
    rw [hop] at hv
    cases mx with
    | none => exact slice_sound h hop hv ho
    | some m => cases hv
  | binOp op t x y t' => rw [hop] at hv; exact eq_sound h hop hv ho
  | index t x i => rw [hop] at hv; exact idx_sound h hop hv ho
  | convert t d x => rw [hop] at hv; exact str_sound h hop hv ho
  | call cl =>
    rw [hop] at hv
    simp only [valOp2, vCall2] at hv
    split at hv
    · rename_i x y h1 h2; exact mm_sound (mx := true) h hop h1 h2 hv ho
    · rename_i x y h1 h2; exact mm_sound (mx := false) h hop h1 h2 hv ho
    · cases hv
  | _ => rw [hop] at hv; cases hv
end
end Go.Ab
