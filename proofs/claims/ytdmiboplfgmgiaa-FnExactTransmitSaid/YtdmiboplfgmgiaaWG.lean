/-
  make, slice literals, append; the join of the operations that make or write memory. Over any program. Conditions: none beyond the meaning.
-/
import Derived.Test.YtdmiboplfgmgiaaWF
set_option linter.unusedVariables false
set_option linter.unusedSectionVars false
namespace Go.V
open Go.Ab Go.RowKit

section
variable {X : Ctx} {E : List Con} {f : F} {a : Act} {w : World} {o : Oper} {R : Type} {K : F → Option R} {r : R}

theorem z_rep {v : Value} {τ : T} (h : DT f (zC v) τ) : Rep w v τ [] := by
  unfold zC at h
  split at h
  · split at h
    · rename_i hp; rw [DT_v h]; exact .lit hp
    · obtain ⟨t, y, hy, _⟩ := h; cases hy
  · rw [DT_v h]; exact .lit rfl
  · split at h
    · rename_i hp; rw [DT_v h]; exact .lit hp
    · obtain ⟨t, y, hy, _⟩ := h; cases hy
  · obtain ⟨t, y, hy, rfl⟩ := h
    simp only [F.data] at hy
    split at hy
    · injection hy with hy; subst hy; exact .nil (Nat.zero_le _)
    · cases hy
  · obtain ⟨t, y, hy, _⟩ := h; cases hy
theorem zs_rep : ∀ {vs : List Value} {ts : List T}, All2 (DT f) (vs.map zC) ts → RepL w vs ts []
  | [], _, h => by cases h; exact .nil
  | v :: vs, _, h => by
    rw [List.map_cons] at h
    cases h with
    | cons h hs => exact .cons (z_rep h) (zs_rep hs)
theorem newRow_at {c : Cx} {ow' : Nat → Option Nat} {w' : World} {d e k : Nat} {t : Ty} {l : List (den t)} {deep : Bool} {v : Value} (h : SimC X.M X.src (c.setRv d v) ow' (f.add d (.row e k t l deep)) a w') (hd : d < a.tmps.size) : SimC X.M X.src (c.setRv d v) ow' (f.newOb d (.row e k t l deep) (.row d)) (a.put (some d) v) w' :=
  h.put hd (by simp [RelS, RelA, RelC, Cx.setRv])
theorem map_replicate' {t : Ty} (n : Nat) (z : den t) : (List.replicate n z).map (cells t) = List.replicate n (cells t z) := by simp

theorem make_goes (h : At X f a w) (hsf : f.subFree) {d : Nat} (hdst : o.dst = some d) (hd : inFrame X.n o.dst = true) {t e : TypeId} {x y : Operand} {k1 k2 : IntKind} {n m : Int} {i : TypeInfo} {z : Value} {ty : Ty} {z0 : den ty} (hop : o.op = .makeSlice t x y) (ht : X.P.underlying t = some (.slice e)) (hx : f.getC x = some (.v (.int k1) n)) (hy : f.getC y = some (.v (.int k2) m))
    (hi : X.P.info? e = some i) (hz : i.zero = some z) (hz0 : f.dataL ty (z.cells.toList.map zC) = some (z0, [])) (c1 : i.size = z.cells.size) (c2 : 0 < i.size) (hp : pinned d = false) (hok : mkOk i.bytes n m = true) (hk : K (f.newOb d (.row e i.size ty (List.replicate n.toNat z0) true) (.row d)) = some r) : Goes X E o a w f K r := by
  refine ⟨_, hk, Ext.newOb f d _ _, fun Kp Q hK => ?_⟩
  obtain ⟨⟨c, ow, hs, hpin⟩, hb, hn⟩ := id h
  have hlt : d < a.tmps.size := by rw [hn]; rw [hdst] at hd; exact inFrame_lt hd
  simp only [mkOk, Bool.and_eq_true, decide_eq_true_eq] at hok
  obtain ⟨p1, p2, p3, p4⟩ := hok
  subst p1
  obtain ⟨ex, _⟩ := RelC_int (hs.getC hx)
  obtain ⟨ey, _⟩ := RelC_int (hs.getC hy)
  have hrun := run_make (P := X.P) w t e i z ht hi hz k1 k2 m m p2 (Int.le_refl _) p3 (by omega)
  have hzp : 0 < z.cells.size := by omega
  have hcells : madeCells z.cells (m.toNat * i.size) = (List.replicate m.toNat z.cells.toList).flatten.toArray := by
    rw [c1]
    apply Array.toList_inj.1
    rw [madeCells_flatten z.cells hzp]
  have hzz : RepL w z.cells.toList (cells ty z0) [] := zs_rep (dataL_all2 hz0)
  have hlen0 : tyLen ty = i.size := by rw [← cells_len ty z0, ← hzz.length, c1]; simp
  have hflat : ((List.replicate m.toNat z0).map (cells ty)).flatten = (List.replicate m.toNat (cells ty z0)).flatten := by rw [map_replicate']
  have hrepl : RepL w (List.replicate m.toNat z.cells.toList).flatten ((List.replicate m.toNat z0).map (cells ty)).flatten [] := by rw [hflat]; exact RepL_replicate hzz m.toNat
  have hln : (List.replicate m.toNat z.cells.toList).flatten.length = m.toNat * i.size := by simp [List.length_flatten, c1]
  have hrun' : (execOp a.eval o).run X.P w = .ok (.value (.slice (some ⟨w.heap.size, 0, none⟩) m.toNat m.toNat)) (w.alloc (.cells (List.replicate m.toNat z.cells.toList).flatten.toArray e (0, 0))) := by
    simp only [execOp, hop, ex, ey]
    rw [hcells] at hrun
    simp [hrun]
  have hblk : ∀ b, b < w.heap.size → (w.alloc (.cells (List.replicate m.toNat z.cells.toList).flatten.toArray e (0, 0))).heap[b]? = w.heap[b]? := fun b hb => Below.heap_alloc _ _ _ hb
  have hown := ownsRow_new (B := 0) (w := w) (e := e) (k := i.size) (n := m.toNat) (List.replicate m.toNat z.cells.toList).flatten (Nat.zero_le _) (by simp [maxLen]; omega) hln
  obtain ⟨ow', h1⟩ := hs.putRow hsf (d := d) (was := none) (by simp) (deep := true) (l := List.replicate m.toNat z0) (t := ty) (v := .slice (some ⟨w.heap.size, 0, none⟩) m.toNat m.toNat) (by simp) (fun b hb _ => hblk b hb) (.inr (.inr rfl)) (fun b hb => by simp [Value.ownBlock] at hb; subst hb; exact h.hM) (by simpa using hown) c2 hlen0 (hrepl.frame (by simp)) (by simp) (fun _ => by simp)
  unfold Oper.wp
  rw [hrun']
  simp only [Oper.upon, hdst]
  exact hK _ _ ⟨⟨_, ow', newRow_at h1 hlt, hpin.rv hp _⟩, hb.alloc _, by rw [size_put]; exact hn⟩ (rec_new hdst (fun b hb' => hblk b hb') (by simp) (by rw [hop]; rfl) (fun _ ad n c he => by injection he with he; injection he with he; subst he; exact Nat.le_refl _))

theorem litEls_sound {M src : Nat → Prop} {c : Cx} {ow : Nat → Option Nat} (h : SimC M src c ow f a w) {k : Nat} {t : Ty} : ∀ {ps : List (Nat × Operand)} {es : List (den t)} {ids : List Nat} {dp : Bool}, litEls f k t ps = some (es, ids, dp) → ids.Nodup →
    ∃ (vss : List (List Value)) (G : List Nat), ps.map (fun p => (a.eval p.2).cells) = vss.map List.toArray ∧ (∀ x ∈ vss, x.length = k) ∧ es.length = ps.length ∧ RepL w vss.flatten (es.map (cells t)).flatten G ∧ Taken M c ow w (okB src c ow f.ob) ids dp G ∧
      ∀ r ∈ ids, ∃ n e k, ∃ (t : Ty) (l : List (den t)), ∃ deep, (r, n, O.row e k t l deep) ∈ f.ob := by
  intro ps
  induction ps with
  | nil =>
    intro es ids dp hl _
    injection hl with hl; injection hl with e1 hl; injection hl with e2 e3; subst e1 e2 e3
    exact ⟨[], [], rfl, by simp, rfl, .nil, ⟨by simp, fun _ => by simp⟩, by simp⟩
  | cons p ps ih =>
    intro es ids dp hl hn
    obtain ⟨i, x⟩ := p
    unfold litEls at hl
    split at hl
    · rename_i y es' i2 d2 hg hrest
      split at hl
      · rename_i hk
        split at hl
        · rename_i e i1 d1 hdat hmv
          injection hl with hl; injection hl with e1 hl; injection hl with e2 e3; subst e1 e2 e3
          obtain ⟨vss, G, q1, q3, q4, q5, q6, q7⟩ := ih hrest (List.nodup_append.1 hn).2.1
          obtain ⟨hsol, _⟩ := mvCs_solid hmv
          obtain ⟨vs, hvs, hall, _⟩ := solid_cells h.rvs (h.get hg) hsol
          obtain ⟨H, g1, g2⟩ := mvs_sound h (dataL_all2 hdat) hmv hall (List.nodup_append.1 hn).1
          refine ⟨vs :: vss, H ++ G, by simp [q1, hvs], ?_, by simp [q4], ?_, g2.append q6 hn, fun r hr => (List.mem_append.1 hr).elim (mvCs_ids hmv r) (q7 r)⟩
          · intro z hz
            rcases List.mem_cons.1 hz with rfl | hz
            · rw [hall.length]; exact hk
            · exact q3 z hz
          · simpa using g1.append q5
        · cases hl
      · cases hl
    · cases hl

theorem lit_goes (h : At X f a w) (hsf : f.subFree) {d : Nat} (hdst : o.dst = some d) (hd : inFrame X.n o.dst = true) {t e : TypeId} {len : Nat} {ps : Array (Nat × Operand)} {i : TypeInfo} {ty : Ty} {es : List (den ty)} {ids : List Nat} {dp : Bool} (hop : o.op = .buildSlice t len ps) (ht : X.P.underlying t = some (.slice e)) (hi : X.P.info? e = some i)
    (hl : litEls f i.size ty ps.toList = some (es, ids, dp)) (c1 : 0 < i.size) (c0 : evSlice.tyLen ty = i.size) (c2 : ps.toList.map (·.1) = List.range len) (c3 : len * i.size ≤ 1000) (c4 : i.zero.isSome = true) (c5 : nodupB ids = true) (hp : pinned d = false) (hk : K ((f.frzAll ids).newOb d (.row e i.size ty es dp) (.row d)) = some r) : Goes X E o a w f K r := by
  refine ⟨_, hk, (Ext.frzAll f ids).trans (Ext.newOb _ d _ _), fun Kp Q hK => ?_⟩
  obtain ⟨⟨c, ow, hs, hpin⟩, hb, hn⟩ := id h
  have hlt : d < a.tmps.size := by rw [hn]; rw [hdst] at hd; exact inFrame_lt hd
  have hnd := nodupB_sound c5
  obtain ⟨vss, G, q1, q3, q4, q5, q6, q7⟩ := litEls_sound hs hl hnd
  have hplen : ps.toList.length = len := by have := congrArg List.length c2; simpa using this
  obtain ⟨z, hz⟩ := Option.isSome_iff_exists.1 c4
  obtain ⟨t1, t2⟩ := q6.frozen hs X.hsrc (fun r hr => hr) q7
  have hes : es.length = len := by rw [q4, hplen]
  have hkk : ∀ y ∈ es.map (cells ty), y.length = i.size := fun y hy => by obtain ⟨y', _, rfl⟩ := List.mem_map.1 hy; rw [cells_len, ← tyLen_eq, c0]
  have hlenv : vss.flatten.length = len * i.size := by rw [q5.length, flatten_length hkk, List.length_map, hes]
  have hlenm : len ≤ maxLen := by
    have : len ≤ len * i.size := Nat.le_mul_of_pos_right _ c1
    simp [maxLen]; omega
  have hblk : ∀ b, b < w.heap.size → (w.alloc (.cells vss.flatten.toArray e (0, 0))).heap[b]? = w.heap[b]? := fun b hb => Below.heap_alloc _ _ _ hb
  have hown := ownsRow_new (B := 0) (w := w) (e := e) (k := i.size) (n := len) vss.flatten (Nat.zero_le _) hlenm hlenv
  obtain ⟨ow', h1⟩ := (hs.frzAll X.hsrc ids).putRow (subFree_frzAll hsf ids) (d := d) (was := none) (by simp) (deep := dp) (l := es) (t := ty) (v := .slice (some ⟨w.heap.size, 0, none⟩) len len) (by simp) (fun b hb _ => hblk b hb) (.inr (.inr rfl)) (fun b hb => by simp [Value.ownBlock] at hb; subst hb; exact h.hM) (by rw [hes]; exact hown) c1 (by rw [← tyLen_eq, c0])
    (q5.frame fun b hb => hblk b (q5.lt b hb)) (fun b hb => ⟨q5.lt b hb, t1 b hb⟩) (fun hd' => by
      obtain ⟨n1, n2⟩ := t2 hd'
      refine ⟨n1, fun b hb => ?_⟩
      obtain ⟨m1, m2, r', m3, m4⟩ := n2 b hb
      exact ⟨m1, m2.keep (hblk b (q5.lt b hb)), r', m3, .inr m4⟩)
  have hvals : (ps.toList.map fun p => (p.1, a.eval p.2)) = (List.range' 0 (ps.toList.map fun p => a.eval p.2).length).zip (ps.toList.map fun p => a.eval p.2) := by
    rw [List.length_map, hplen, ← List.range_eq_range', ← c2]
    rw [List.zip_map']
  have hfill := fill_seq i.size (ps.toList.map fun p => a.eval p.2) 0 ((Array.range (len * i.size)).map fun x => (if len * i.size = 0 then #[] else z.cells)[x % (if len * i.size = 0 then #[] else z.cells).size]!) (by
    intro v hv
    have h1 : v.cells ∈ (ps.toList.map fun p => a.eval p.2).map Value.cells := List.mem_map.2 ⟨v, hv, rfl⟩
    rw [List.map_map] at h1
    have h2 : v.cells ∈ vss.map List.toArray := by rw [← q1]; exact h1
    obtain ⟨us, hus, he⟩ := List.mem_map.1 h2
    rw [← he]
    simpa using q3 us hus) (by simp [hplen])
  rw [← hvals] at hfill
  have hflat : ((ps.toList.map fun p => a.eval p.2).map fun v => v.cells.toList).flatten = vss.flatten := by
    congr 1
    have : (ps.toList.map fun p => a.eval p.2).map (fun v => v.cells.toList) = (ps.toList.map fun p => (a.eval p.2).cells).map Array.toList := by simp [List.map_map, Function.comp_def]
    rw [this, q1, List.map_map]
    exact List.map_id vss
  rw [hflat] at hfill
  have hdrop : ((Array.range (len * i.size)).map fun x => (if len * i.size = 0 then #[] else z.cells)[x % (if len * i.size = 0 then #[] else z.cells).size]!).toList.drop ((0 + (ps.toList.map fun p => a.eval p.2).length) * i.size) = [] := by
    apply List.drop_eq_nil_of_le
    simp [hplen]
  rw [hdrop] at hfill
  simp only [Nat.zero_mul, List.take_zero, List.nil_append, List.append_nil] at hfill
  unfold Oper.wp
  have hrun : (execOp a.eval o).run X.P w = .ok (.value (.slice (some ⟨w.heap.size, 0, none⟩) len len)) (w.alloc (.cells vss.flatten.toArray e (0, 0))) := by
    simp only [execOp, hop, Instr.buildSlice, Sem.run_bind, run_underlying ht, Result.andThen_ok, run_sizeOf hi]
    by_cases h0 : len * i.size = 0
    · have hps : ps.toList = [] := List.length_eq_zero_iff.1 (by rcases Nat.mul_eq_zero.1 h0 with h | h <;> omega)
      have hvs : vss = [] := by
        rw [hps] at q1
        simpa using q1.symm
      have hl0 : len = 0 := by rw [hps] at hplen; simpa using hplen.symm
      subst hvs
      simp [hl0, hps, Instr.fill, newRow, Array.range_zero']
    · simp only [h0, if_false] at hfill ⊢
      simp only [Array.toList_map, zeroValue, typeInfo]
      have h24 : ¬ 16777216 < len * i.size := by omega
      simp [hi, hz, h24, hfill, newRow]
  rw [hrun]
  simp only [Oper.upon, hdst]
  exact hK _ _ ⟨⟨_, ow', newRow_at h1 hlt, hpin.rv hp _⟩, hb.alloc _, by rw [size_put]; exact hn⟩ (rec_new hdst (fun b hb' => hblk b hb') (by simp) (by rw [hop]; rfl) (fun _ ad n c he => by injection he with he; injection he with he; subst he; exact Nat.le_refl _))

/-! ### append -/
theorem flat_cells : ∀ {t : Ty}, flat t = true → ∀ x : den t, (cells t x).any T.isSl = false
  | .int _, _, _ => rfl
  | .bool, _, _ => rfl
  | .str, _, _ => rfl
  | .sl _, h, _ => by cases h
  | .pair a b, h, x => by
    simp only [flat, Bool.and_eq_true] at h
    simp only [cells, List.any_append, Bool.or_eq_false_iff]
    exact ⟨flat_cells h.1 x.1, flat_cells h.2 x.2⟩
theorem apSrc_sound {M src : Nat → Prop} {c : Cx} {ow : Nat → Option Nat} (h : SimC M src c ow f a w) {k : Nat} {t : Ty} {x : C} {u : Value} {es : List (den t)} {ids : List Nat} {dp : Bool} (hs : apSrc f k t x = some (es, ids, dp)) (hv : RelC c ow w (okB src c ow f.ob) u x) :
    ∃ G, Rep w u (leafT (.sl t) es) G ∧ (∀ r ∈ ids, ∃ n e k, ∃ (t : Ty) (l : List (den t)), ∃ deep, (r, n, O.row e k t l deep) ∈ f.ob) ∧ ids.Nodup ∧ (Taken M c ow w (okB src c ow f.ob) ids dp G ∨ (flat t = true ∧ Taken M c ow w (okB src c ow f.ob) ids false G)) := by
  unfold apSrc at hs
  split at hs
  · injection hs with hs; injection hs with e1 hs; injection hs with e2 e3; subst e1 e2 e3
    have : u = .slice none 0 0 := hv
    subst this
    exact ⟨[], .nil (Nat.zero_le _), by simp, List.nodup_nil, .inl ⟨by simp, fun _ => by simp⟩⟩
  · rename_i t' y
    obtain ⟨l, hl, he⟩ := Option.map_eq_some_iff.1 hs
    injection he with e1 he; injection he with e2 e3; subst e1 e2 e3
    obtain ⟨rfl, rfl⟩ := castTy_some hl
    obtain ⟨G, hr, hG⟩ := hv
    refine ⟨G, hr, by simp, List.nodup_nil, ?_⟩
    cases hf : flat t with
    | true => exact .inr ⟨rfl, fun b hb => .inl (hG b hb), fun h => by cases h⟩
    | false => exact .inl ⟨fun b hb => .inl (hG b hb), fun h => by cases h⟩
  · rename_i q
    split at hs
    · rename_i e k' t' l deep hrow
      split at hs
      · obtain ⟨l', hl, he⟩ := Option.map_eq_some_iff.1 hs
        injection he with e1 he; injection he with e2 e3; subst e1 e2 e3
        obtain ⟨e0, rfl⟩ := castTy_some hl
        injection e0 with e0
        subst e0
        have hv : u = c.rv q := hv
        subst hv
        obtain ⟨G, g1, g2⟩ := row_taken h hrow
        obtain ⟨n, hm⟩ := obj_mem hrow
        exact ⟨G, g1, fun r' hr' => by rw [List.mem_singleton.1 hr']; exact ⟨n, e, k', _, _, deep, hm⟩, by simp, .inl g2⟩
      · cases hs
    · cases hs
  · cases hs
theorem taken_part {M src : Nat → Prop} {c : Cx} {ow : Nat → Option Nat} (h : SimC M src c ow f a w) (hsrc : ∀ b, M b → src b) {ids : List Nat} {dp : Bool} {G H : List Nat} {t : Ty} {es : List (den t)} {news : List Value} (hids : ∀ r ∈ ids, ∃ n e k, ∃ (t : Ty) (l : List (den t)), ∃ deep, (r, n, O.row e k t l deep) ∈ f.ob)
    (ht : Taken M c ow w (okB src c ow f.ob) ids dp G ∨ (flat t = true ∧ Taken M c ow w (okB src c ow f.ob) ids false G)) (hr : RepL w news (es.map (cells t)).flatten H) (hsub : ∀ b ∈ H, b ∈ G) (hnd : G.Nodup → H.Nodup) :
    (∀ b ∈ H, okB src c ow (f.frzAll ids).ob b) ∧ (dp = true → H.Nodup ∧ ∀ b ∈ H, M b ∧ Unf w b ∧ ∃ r, ow b = some r ∧ ∀ n x, (r, n, x) ∉ (f.frzAll ids).ob) := by
  rcases ht with ht | ⟨hno, ht⟩
  · obtain ⟨t1, t2⟩ := ht.frozen h hsrc (fun r hr => hr) hids
    refine ⟨fun b hb => t1 b (hsub b hb), fun hd => ?_⟩
    obtain ⟨n1, n2⟩ := t2 hd
    exact ⟨hnd n1, fun b hb => n2 b (hsub b hb)⟩
  · rw [hr.noSl (RepL_noSl fun x hx => by obtain ⟨y, _, rfl⟩ := List.mem_map.1 hx; exact flat_cells hno y)]
    exact ⟨by simp, fun _ => by simp⟩

theorem app_goes (h : At X f a w) (hsf : f.subFree) {d : Nat} (hdst : o.dst = some d) (hd : inFrame X.n o.dst = true) {t : TypeId} {s x : Operand} (hop : o.op = .call { callee := .builtin .append, args := #[s, x], argTypes := #[t, t] }) (hv : evApp X.P f d t s x K = some r) : Goes X E o a w f K r := by
  unfold evApp at hv
  split at hv
  · rename_i e ht
    split at hv
    · rename_i i ty hi hty
      split at hv
      · rename_i z hz
        split at hv
        · rename_i hcond
          obtain ⟨c1, c2, c3, hp⟩ := hcond
          rw [tyLen_eq] at c3
          split at hv
          · rename_i cs cx hs' hx
            split at hv
            · rename_i es2 ids dp hsr
              obtain ⟨⟨c, ow, hs, hpin⟩, hb, hn⟩ := id h
              have hlt : d < a.tmps.size := by rw [hn]; rw [hdst] at hd; exact inFrame_lt hd
              have hexec : ∀ (v u v' : Value) (w' : World), a.eval s = v → a.eval x = u → (∀ ty, (Builtin.append_ #[t, t] ty #[v, u]).run X.P w = .ok v' w') → (execOp a.eval o).run X.P w = .ok (.value v') w' := by
                intro v u v' w' hv1 hu1 hr
                simp [execOp, hop, resolve, invoke, builtin, hv1, hu1, hr]
              obtain ⟨F0, f1, f3, f4, f5⟩ := apSrc_sound hs hsr (hs.getC hx)
              have hk2 : ∀ y ∈ es2.map (cells ty), y.length = i.size := fun y hy => by obtain ⟨y', _, rfl⟩ := List.mem_map.1 hy; rw [cells_len, c3]
              split at hv
              · rcases cond_some hv with ⟨p1, hv⟩ | ⟨_, hv⟩
                · have p1 : (0 + es2.length) * (i.bytes + 1) ≤ 140737488355328 := by simpa [apOk] using p1
                  refine ⟨_, hv, (Ext.frzAll f ids).trans (Ext.newOb _ d _ _), fun Kp Q hK => ?_⟩
                  have hvs : a.eval s = .slice none 0 0 := hs.getC hs'
                  have hown : w.ownsRow 0 e i.size (.slice none 0 0) 0 [] := ⟨by simp, .inl ⟨rfl, rfl⟩⟩
                  obtain ⟨v', w', news, G, g1, g2, g3, g4, g5, g6, g7⟩ := run_app (P := X.P) (ty := 0) (es := es2.map (cells ty)) ht hi hz c1 c2 hown f1 hk2 (by rw [List.length_map]; exact p1) (Nat.zero_le _)
                  have hsame : ∀ ty, (Builtin.append_ #[t, t] ty #[.slice none 0 0, a.eval x]).run X.P w = .ok v' w' := fun ty => g1
                  have hG := taken_part hs X.hsrc f3 f5 g5 g6 g7
                  have hbk : ∀ b, b < w.heap.size → w'.heap[b]? = w.heap[b]? := fun b hlt => g3.block b hlt (by simp [Value.ownBlock])
                  rw [Nat.zero_add, List.nil_append, List.length_map] at g2
                  obtain ⟨ow', h1⟩ := (hs.frzAll X.hsrc ids).putRow (subFree_frzAll hsf ids) (d := d) (was := none) (by simp) (deep := dp) (l := es2) (t := ty) (v := v') g3.size (fun b hb _ => hbk b hb) (by
                      rcases g4 with g4 | g4
                      · exact .inl g4
                      · exact .inr (.inr g4)) (fun b hb => by
                      rcases g4 with g4 | g4
                      · rw [g4] at hb; cases hb
                      · rw [g4] at hb; injection hb with hb; subst hb; exact h.hM) g2 c2 c3
                    (g5.frame fun b hb => hbk b (g5.lt b hb)) (fun b hb => ⟨g5.lt b hb, hG.1 b hb⟩) (fun hdp => by
                      obtain ⟨n1, n2⟩ := hG.2 hdp
                      refine ⟨n1, fun b hb => ?_⟩
                      obtain ⟨m1, m2, r', m3, m4⟩ := n2 b hb
                      exact ⟨m1, m2.keep (hbk b (g5.lt b hb)), r', m3, .inr m4⟩)
                  unfold Oper.wp
                  rw [hexec _ _ v' w' hvs rfl hsame]
                  simp only [Oper.upon, hdst]
                  exact hK _ _ ⟨⟨_, ow', newRow_at h1 hlt, hpin.rv hp _⟩, hb.grown g3 (by simp [Value.ownBlock]), by rw [size_put]; exact hn⟩ ⟨(fun hw => by rw [hop] at hw; simp [writes] at hw), ⟨v', by rw [hdst], fun ha => by rw [hop] at ha; cases ha⟩, fun _ _ b hlt _ => hbk b hlt, g3.size⟩
                · cases hv
              · rename_i q
                split at hv
                · rename_i e1 k1 t1 l1 deep1 hrow
                  split at hv
                  · rename_i es1 hcast
                    obtain ⟨e0, he0⟩ := castTy_some hcast
                    injection e0 with e0
                    subst e0
                    have he0 : l1 = es1 := he0
                    subst he0
                    split at hv
                    · rename_i hc2
                      obtain ⟨rfl, rfl, hrd, hrids, hpq⟩ := hc2
                      rcases cond_some hv with ⟨p1, hv⟩ | ⟨_, hv⟩
                      · have p1 : (l1.length + es2.length) * (i.bytes + 1) ≤ 140737488355328 := by simpa [apOk] using p1
                        refine ⟨_, hv, ((Ext.frzAll f ids).trans (Ext.add _ q _)).trans (Ext.put _ _ _), fun Kp Q hK => ?_⟩
                        have hvs : a.eval s = c.rv q := hs.getC hs'
                        obtain ⟨m, hmem⟩ := obj_mem hrow
                        obtain ⟨m1, hm1⟩ := mem_frzAll_row hrids hmem
                        have h0 := hs.frzAll X.hsrc ids
                        obtain ⟨r0, r1, r2, xs, F1, r3, r4, r5, r6⟩ := h0.ob _ _ _ hm1
                        obtain ⟨v', w', news, G, g1, g2, g3, g4, g5, g6, g7⟩ := run_app (P := X.P) (ty := 0) (es := es2.map (cells t1)) ht hi hz c1 c2 r3 f1 hk2 (by rw [List.length_map]; exact p1) (Nat.zero_le _)
                        have hsame : ∀ ty, (Builtin.append_ #[t, t] ty #[c.rv q, a.eval x]).run X.P w = .ok v' w' := fun ty => g1
                        have hG := taken_part hs X.hsrc f3 f5 g5 g6 g7
                        have hnl : ∀ b, okB X.src c ow (f.frzAll ids).ob b → some b ≠ (c.rv q).ownBlock := fun b hok e => hok.2 ⟨q, m1, _, hm1, e.symm⟩
                        have hbk : ∀ b, b < w.heap.size → okB X.src c ow (f.frzAll ids).ob b → w'.heap[b]? = w.heap[b]? := fun b hlt hok => g3.block b hlt (hnl b hok)
                        have hrep : RepL w' (xs ++ news) ((l1 ++ es2).map (cells t1)).flatten (F1 ++ G) := by
                          rw [List.map_append, List.flatten_append]
                          exact (r4.frame fun b hb => hbk b (r4.lt b hb) (r5 b hb)).append (g5.frame fun b hb => hbk b (g5.lt b hb) (hG.1 b hb))
                        rw [List.length_map] at g2
                        obtain ⟨ow', h1⟩ := h0.putRow (subFree_frzAll hsf ids) (d := q) (was := (c.rv q).ownBlock) (fun b hb => ⟨(r2 b hb).2, ⟨q, m1, _, hm1, hb⟩⟩) (deep := deep1 && dp) (l := l1 ++ es2) (t := t1) (v := v') g3.size (fun b hlt hne => g3.block b hlt hne) (.inr g4) (fun b hb => by
                            rcases g4 with g4 | g4
                            · rw [g4] at hb; exact (r2 b hb).1
                            · rw [g4] at hb; injection hb with hb; subst hb; exact h.hM) (by rw [List.length_append]; exact g2) c2 c3 hrep (fun b hb => by
                            rcases List.mem_append.1 hb with hb | hb
                            · exact ⟨r4.lt b hb, r5 b hb⟩
                            · exact ⟨g5.lt b hb, hG.1 b hb⟩)
                          (fun hdp => by
                            simp only [Bool.and_eq_true] at hdp
                            obtain ⟨n1, n2⟩ := r6 hdp.1
                            obtain ⟨n3, n4⟩ := hG.2 hdp.2
                            refine ⟨List.nodup_append.2 ⟨n1, n3, fun z hz z' hz' hzz => ?_⟩, fun b hb => ?_⟩
                            · subst hzz
                              obtain ⟨_, m2, _⟩ := n2 z hz
                              obtain ⟨_, _, r', m3, m4⟩ := n4 z hz'
                              rw [m2] at m3
                              injection m3 with m3
                              subst m3
                              exact m4 _ _ hm1
                            · rcases List.mem_append.1 hb with hb | hb
                              · obtain ⟨m1, m2, m3, m4⟩ := n2 b hb
                                exact ⟨m1, m4.keep (hbk b (r4.lt b hb) (r5 b hb)), q, m2, .inl rfl⟩
                              · obtain ⟨m1, m2, r', m3, m4⟩ := n4 b hb
                                exact ⟨m1, m2.keep (hbk b (g5.lt b hb) (hG.1 b hb)), r', m3, .inr m4⟩)
                        unfold Oper.wp
                        rw [hexec _ _ v' w' hvs rfl hsame]
                        simp only [Oper.upon, hdst]
                        exact hK _ _ ⟨⟨_, ow', h1.put hlt (by simp [RelS, RelA, RelC, Cx.setRv]), hpin.rv hpq _⟩, hb.grown g3 (fun b hb => (r2 b hb).1), by rw [size_put]; exact hn⟩ ⟨(fun hw => by rw [hop] at hw; simp [writes] at hw), ⟨v', by rw [hdst], fun ha => by rw [hop] at ha; cases ha⟩, fun y hy b hlt hne => g3.block b hlt (fun e => by
                          rw [hop] at hy
                          injection hy with hy
                          subst hy
                          obtain ⟨ad, nn, cc, hrv⟩ := hs.rvs q
                          rw [hrv] at e
                          cases ad with
                          | none => cases e
                          | some ad => injection e with e; exact hne ad nn cc (hvs.trans hrv) e), g3.size⟩
                      · cases hv
                    · cases hv
                  · cases hv
                · cases hv
              · cases hv
            · cases hv
          · cases hv
        · cases hv
      · cases hv
    · cases hv
  · cases hv
end
end Go.V
