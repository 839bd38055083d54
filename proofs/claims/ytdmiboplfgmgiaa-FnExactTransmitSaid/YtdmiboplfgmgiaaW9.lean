/-
  Operations that leave a value, the last of them, and their join. Over any program. Conditions: none beyond the meaning.
-/
import Derived.Test.YtdmiboplfgmgiaaW8
set_option linter.unusedVariables false
set_option linter.unusedSectionVars false
namespace Go.V
open Go.Ab Go.RowKit

section
variable {M src : Nat → Prop} {c : Cx} {ow : Nat → Option Nat} {f : F} {a : Act} {w : World} {P : Program} {o : Oper} {ok : Nat → Prop} {R : Type}

theorem zC_sound (v : Value) : RelC c ow w ok v (zC v) := by
  unfold zC
  split
  · split
    · exact mkC_int ‹_›
    · trivial
  · exact mkC_bool _
  · split
    · rename_i hp; exact mkC_str (by simpa [plain] using hp)
    · trivial
  · rfl
  · trivial
theorem zCs_sound (vs : List Value) : All2 (RelC c ow w ok) vs (vs.map zC) := by
  induction vs with
  | nil => exact .nil
  | cons v vs ih => exact .cons (zC_sound v) ih
theorem solid_cell (hrv : ∀ r, ∃ ad n k, c.rv r = .slice ad n k) {t : C} {v : Value} (h : RelC c ow w ok v t) (hs : t.solid = true) : v.oneCell' = true ∧ v.cells = #[v] := by
  cases t with
  | v t x =>
    obtain ⟨G, hr, _⟩ := h
    generalize leafT t x = d at hr
    cases hr with
    | lit hp => cases v <;> simp [plain] at hp <;> exact ⟨rfl, rfl⟩
    | nil _ => exact ⟨rfl, rfl⟩
    | cons _ _ _ _ _ _ _ _ _ => exact ⟨rfl, rfl⟩
  | nil => have h : v = .slice none 0 0 := h; subst h; exact ⟨rfl, rfl⟩
  | row r => have h : v = c.rv r := h; obtain ⟨ad, n, k, he⟩ := hrv r; rw [he] at h; subst h; exact ⟨rfl, rfl⟩
  | ptr o off => have h : v = _ := h; subst h; exact ⟨rfl, rfl⟩
  | ep _ _ _ => obtain ⟨b, base, rfl, _⟩ := h; exact ⟨rfl, rfl⟩
  | rp _ _ _ _ => obtain ⟨g, b0, n, cap, _, rfl⟩ := h; exact ⟨rfl, rfl⟩
  | sub _ _ _ _ t x =>
    obtain ⟨_, _, _, _, _, _, G, hr, _⟩ := h
    generalize leafT (.sl t) x = d at hr
    cases hr with
    | lit hp => cases v <;> simp [plain] at hp <;> exact ⟨rfl, rfl⟩
    | nil _ => exact ⟨rfl, rfl⟩
    | cons _ _ _ _ _ _ _ _ _ => exact ⟨rfl, rfl⟩
  | any => cases hs
theorem solid_cells (hrv : ∀ r, ∃ ad n k, c.rv r = .slice ad n k) {x : A} {v : Value} (h : RelA c ow w ok v x) (hs : x.cells.all C.solid = true) :
    ∃ vs : List Value, v.cells = vs.toArray ∧ All2 (RelC c ow w ok) vs x.cells ∧ ∀ u ∈ vs, u.oneCell' = true := by
  cases x with
  | one t =>
    simp only [A.cells, List.all_cons, List.all_nil, Bool.and_true] at hs
    have h1 := solid_cell hrv h hs
    exact ⟨[v], h1.2, .cons h .nil, by simpa using h1.1⟩
  | agg ts =>
    obtain ⟨vs, rfl, ha⟩ := h
    refine ⟨vs, rfl, ha, ?_⟩
    have hs' : ts.all C.solid = true := hs
    clear hs
    induction ha with
    | nil => simp
    | cons hr hrs ih =>
      simp only [List.all_cons, Bool.and_eq_true] at hs'
      intro u hu
      rcases List.mem_cons.1 hu with rfl | hu
      · exact (solid_cell hrv hr hs'.1).1
      · exact ih hs'.2 u hu
theorem All2.sp {α β : Type} {R : α → β → Prop} {as as' : List α} {bs bs' : List β} (h : All2 R as bs) (h' : All2 R as' bs') (off : Nat) : All2 R (sp as off as') (sp bs off bs') := by
  unfold Go.V.sp
  rw [h'.length]
  exact ((h.take off).append h').append (h.drop _)

theorem fieldV_sound (h : SimC M src c ow f a w) {t : TypeId} {x : Operand} {j : Nat} {K : S → Option R} {r : R} (hop : o.op = .field t x j) (hv : evFieldV P f t x j K = some r) : ∃ s, Val P src c ow f a w o s ∧ K s = some r := by
  unfold evFieldV at hv
  split at hv
  · rename_i fs ht
    split at hv
    · rename_i fd ts hf hx
      obtain ⟨y, hy, hv⟩ := kOpt_some hv
      obtain ⟨vs, hve, ha⟩ := h.get hx
      obtain ⟨v, hr, hrun⟩ := part_sound hy ha
      refine ⟨_, ?_, hv⟩
      refine ⟨v, hr, fun w' _ => ?_⟩
      simp only [execOp, hop, hve]
      refine run_v ?_
      simp [Instr.field, run_underlying ht, hf, asAgg, hrun]
    · cases hv
  · cases hv
theorem places_run' : ∀ {fs : List Field} {ps : List (Nat × Nat)}, placesOf P fs = some ps → ∀ w' : World, (fs.mapM fun f => (do pure (f.offset, ← sizeOf f.type) : Sem (Nat × Nat))).run P w' = .ok ps w' := by
  intro fs ps h w'
  exact places_run h w'
theorem fillC_sound (h : SimC M src c ow f a w) {place : Nat → Option (Nat × Nat)} : ∀ {ps : List (Nat × Operand)} {cs r : List C} {vs : List Value}, fillC f place cs ps = some r → All2 (RelC c ow w (okB src c ow f.ob)) vs cs →
    ∃ us : List Value, All2 (RelC c ow w (okB src c ow f.ob)) us r ∧ Instr.fill place vs.toArray (ps.map fun p => (p.1, a.eval p.2)) = some us.toArray := by
  intro ps
  induction ps with
  | nil => intro cs r vs hf ha; injection hf with hf; subst hf; exact ⟨vs, ha, by simp [Instr.fill]⟩
  | cons p ps ih =>
    intro cs r vs hf ha
    obtain ⟨i, x⟩ := p
    unfold fillC at hf
    split at hf
    · rename_i off size y hp hx
      split at hf
      · rename_i hc
        obtain ⟨c1, c2, c3⟩ := hc
        obtain ⟨ws, hws, hall, _⟩ := solid_cells h.rvs (h.get hx) c3
        have hal := ha.sp hall off
        obtain ⟨us, hu1, hu2⟩ := ih hf hal
        refine ⟨us, hu1, ?_⟩
        rw [List.map_cons, fill_one (off := off) (size := size) hp (by rw [hws]; simp [hall.length, c1]) (by rw [ha.length]; exact c2), hws]
        exact hu2
      · cases hf
    · cases hf
theorem build_sound (h : SimC M src c ow f a w) {t : TypeId} {ps : Array (Nat × Operand)} {K : S → Option R} {r : R} (hop : o.op = .build t ps) (hv : evBuild P f t ps.toList K = some r) : ∃ s, Val P src c ow f a w o s ∧ K s = some r := by
  unfold evBuild at hv
  split at hv
  · rename_i i fs hi ht
    split at hv
    · rename_i z places hz hpl
      obtain ⟨cs, hf, hv⟩ := kOpt_some hv
      obtain ⟨us, hu1, hu2⟩ := fillC_sound (a := a) h hf (zCs_sound z.cells.toList)
      refine ⟨_, ?_, hv⟩
      refine ⟨.agg us.toArray, ⟨us, rfl, hu1⟩, fun w' _ => ?_⟩
      simp only [execOp, hop]
      refine run_v ?_
      have hm : (fs.mapM fun f => (do pure (f.offset, ← sizeOf f.type) : Sem (Nat × Nat))).run P w' = .ok places.toArray w' := by
        have he : fs = fs.toList.toArray := by simp
        rw [he, List.mapM_toArray]
        have := places_run' hpl w'
        simp only [Sem.run_bind, map_eq_pure_bind, this, Result.andThen_ok]
        rfl
      simp only [Instr.build, zeroValue, typeInfo, Sem.run_bind, run_program, Result.andThen_ok, hi, hz, Sem.run_pure, run_underlying ht]
      rw [hm]
      simp only [Result.andThen_ok, Array.toList_map]
      have hu2' : Instr.fill (fun x => places.toArray[x]?) z.cells (List.map (fun p => (p.1, a.eval p.2)) ps.toList) = some us.toArray := by simpa using hu2
      simp only [hu2']
      rfl
    · cases hv
  · rename_i i n e hi ht
    split at hv
    · rename_i z ie hz hie
      obtain ⟨cs, hf, hv⟩ := kOpt_some hv
      obtain ⟨us, hu1, hu2⟩ := fillC_sound (a := a) h hf (zCs_sound z.cells.toList)
      refine ⟨_, ?_, hv⟩
      refine ⟨.agg us.toArray, ⟨us, rfl, hu1⟩, fun w' _ => ?_⟩
      simp only [execOp, hop]
      refine run_v ?_
      simp only [Instr.build, zeroValue, typeInfo, Sem.run_bind, run_program, Result.andThen_ok, hi, hz, Sem.run_pure, run_underlying ht, run_sizeOf hie, Array.toList_map]
      have hu2' : Instr.fill (fun x => some (x * ie.size, ie.size)) z.cells (List.map (fun p => (p.1, a.eval p.2)) ps.toList) = some us.toArray := by simpa using hu2
      simp only [hu2']
      rfl
    · cases hv
  · cases hv

theorem bnd_sound (h : SimC M src c ow f a w) {dflt : Int} {x : Option Operand} {n : Int} (hb : bndC f dflt x = some n) : (x = none ∧ n = dflt) ∨ ∃ y k, x = some y ∧ a.eval y = .int k n := by
  cases x with
  | none => injection hb with hb; exact .inl ⟨rfl, hb.symm⟩
  | some y =>
    simp only [bndC] at hb
    split at hb
    · rename_i k n' hg
      injection hb with hb; subst hb
      exact .inr ⟨y, k, rfl, (RelC_int (h.getC hg)).1⟩
    · cases hb
theorem bounds_run (h : SimC M src c ow f a w) {sl : Bool} {len cap : Nat} (hlc : len ≤ cap) {lo hi : Option Operand} {l u : Int} (h1 : bndC f 0 lo = some l) (h2 : bndC f (len : Int) hi = some u) (hl : 0 ≤ l) (hlu : l ≤ u) (hu : u ≤ len) (w' : World) :
    (Instr.sliceBounds sl len cap (lo.map a.eval) (hi.map a.eval) none).run P w' = .ok (l.toNat, u.toNat, cap) w' := by
  have hhi : ∀ w' : World, (match hi.map a.eval, (none : Option Value) with
      | some v, some _ => Instr.sliceBound v cap .slice3B
      | some v, none => Instr.sliceBound v cap (if sl then .sliceAcap else .sliceAlen)
      | none, none => pure len
      | none, some _ => stuck "Slice: max without high" : Sem Nat).run P w' = .ok u.toNat w' := by
    intro w'
    rcases bnd_sound h h2 with ⟨rfl, rfl⟩ | ⟨y, k, rfl, hy⟩
    · simp
    · simp only [Option.map_some, hy, Instr.sliceBound, asIntOf, Sem.run_bind, Sem.run_pure, Result.andThen_ok]
      rw [if_pos (by omega)]
      rfl
  have hlo : ∀ w' : World, (match lo.map a.eval with
      | some v => Instr.sliceBound v u.toNat .sliceB
      | none => pure 0 : Sem Nat).run P w' = .ok l.toNat w' := by
    intro w'
    rcases bnd_sound h h1 with ⟨rfl, rfl⟩ | ⟨y, k, rfl, hy⟩
    · simp
    · simp only [Option.map_some, hy, Instr.sliceBound, asIntOf, Sem.run_bind, Sem.run_pure, Result.andThen_ok]
      rw [if_pos (by omega)]
      rfl
  unfold Instr.sliceBounds
  simp only [Sem.run_bind, Sem.run_pure, Result.andThen_ok]
  have e1 := hhi w'
  have e2 := hlo w'
  cases hi with
  | none =>
    simp only [Option.map_none, Sem.run_pure] at e1
    injection e1 with e1
    cases lo with
    | none =>
      simp only [Option.map_none, Sem.run_pure] at e2
      injection e2 with e2
      simp [e1, ← e2]
    | some y => simp only [Option.map_some] at e2; simp [e1, e2]
  | some z =>
    simp only [Option.map_some] at e1
    cases lo with
    | none =>
      simp only [Option.map_none, Sem.run_pure] at e2
      injection e2 with e2
      simp [e1, ← e2]
    | some y => simp only [Option.map_some] at e2; simp [e1, e2]
theorem tyLen_eq : ∀ t : Ty, evSlice.tyLen t = tyLen t
  | .int _ => rfl
  | .bool => rfl
  | .str => rfl
  | .sl _ => rfl
  | .pair a b => by simp [evSlice.tyLen, tyLen, tyLen_eq a, tyLen_eq b]
theorem slOk_iff {l h n : Int} (hs : slOk l h n = true) : 0 ≤ l ∧ l ≤ h ∧ h ≤ n := by simpa [slOk] using hs
theorem cut_map {α β : Type} (g : α → β) (l : List α) (a b : Int) : (cut l a b).map g = ((l.map g).drop a.toNat).take (b - a).toNat := by simp [cut, List.map_take, List.map_drop]
theorem slice_sound (h : SimC M src c ow f a w) {t : TypeId} {x : Operand} {lo hi : Option Operand} {K : S → Option R} {r : R} (hop : o.op = .slice t x lo hi none) (hv : evSlice P f t x lo hi K = some r) : ∃ s, Val P src c ow f a w o s ∧ K s = some r := by
  unfold evSlice at hv
  split at hv
  · rename_i e ty l ht hx
    split at hv
    · rename_i i lo' u hi' h1 h2
      split at hv
      · rename_i hk
        rcases cond_some hv with ⟨p, hv⟩ | ⟨_, hv⟩
        · obtain ⟨p1, p2, p3⟩ := slOk_iff p
          obtain ⟨G, hr, hG⟩ := h.getC hx
          obtain ⟨ad, len, cap, hve, hlen, hlc, hcm, G', g1, g2⟩ := Rep.cut (es := l.map (cells ty)) hr (k := i.size) (l := lo'.toNat) (n := (u - lo').toNat) (fun z hz => by obtain ⟨y, _, rfl⟩ := List.mem_map.1 hz; rw [cells_len, hk, tyLen_eq]) (by rw [List.length_map]; omega)
          rw [List.length_map] at hlen
          subst hlen
          rw [← cut_map] at g1
          refine ⟨_, ?_, hv⟩
          refine ⟨_, ⟨G', g1, fun b hb => hG b (g2 b hb)⟩, fun w' _ => ?_⟩
          have hbr := bounds_run (P := P) (sl := true) h hlc h1 h2 p1 p2 p3 w'
          simp only [execOp, hop, hve]
          refine run_v ?_
          have hsub : u.toNat - lo'.toNat = (u - lo').toNat := by omega
          simp only [Instr.sliceAt, Sem.run_bind, run_underlying ht, Result.andThen_ok, Instr.slice, Option.map_none, hbr, run_sizeOf hi', hsub]
          rfl
        · cases hv
      · cases hv
    · cases hv
  · rename_i sb ht hx
    split at hv
    · rename_i l u h1 h2
      rcases cond_some hv with ⟨p, hv⟩ | ⟨_, hv⟩
      · obtain ⟨p1, p2, p3⟩ := slOk_iff p
        obtain ⟨hve, hsz⟩ := RelC_str (h.getC hx)
        refine ⟨_, ?_, hv⟩
        refine ⟨.string (sb.extract l.toNat u.toNat), mkC_str (c := c) (ow := ow) ?_, fun w' _ => ?_⟩
        · simp only [ByteArray.size_extract]
          have h1 : u.toNat ≤ sb.size := by omega
          omega
        · have hbr := bounds_run (P := P) (sl := false) h (Nat.le_refl (ByteArray.size sb)) h1 h2 p1 p2 p3 w'
          simp only [execOp, hop, hve]
          refine run_v ?_
          simp only [Instr.sliceAt, Sem.run_bind, run_underlying ht, Result.andThen_ok, Instr.slice, Option.map_none, Option.isSome_none, Bool.false_eq_true, if_false, Sem.run_pure, hbr]
      · cases hv
    · cases hv
  · cases hv

theorem castTy_some {s t : Ty} {x : den s} {y : den t} (h : castTy s t x = some y) : ∃ e : s = t, e ▸ x = y := by
  unfold castTy at h
  split at h
  · rename_i e; injection h with h; exact ⟨e, h⟩
  · cases h
theorem litOf_get {t : Ty} {d : den t} : ∀ {cs : List C} {l : List (den t)}, litOf t d cs = some l → l.length = cs.length ∧ ∀ (i : Nat) (y : den t), l[i]? = some y → cs[i]? = some (.v t y)
  | [], l, h => by injection h with h; subst h; exact ⟨rfl, fun i y hy => by simp at hy⟩
  | .v t' x :: cs, l, h => by
    unfold litOf at h
    split at h
    · rename_i y ys h1 h2
      injection h with h
      subst h
      obtain ⟨rfl, rfl⟩ := castTy_some h1
      obtain ⟨g1, g2⟩ := litOf_get h2
      refine ⟨by simp [g1], fun i z hz => ?_⟩
      cases i with
      | zero => simp at hz ⊢; exact hz
      | succ i => simpa using g2 i z (by simpa using hz)
    · cases h
  | .nil :: _, _, h => by cases h
  | .row _ :: _, _, h => by cases h
  | .ptr _ _ :: _, _, h => by cases h
  | .ep _ _ _ :: _, _, h => by cases h
  | .rp _ _ _ _ :: _, _, h => by cases h
  | .sub _ _ _ _ _ _ :: _, _, h => by cases h
  | .any :: _, _, h => by cases h
theorem arr_sound (h : SimC M src c ow f a w) {t e : TypeId} {len : Nat} {x i : Operand} {cs : List C} {kd : IntKind} {n : Int} {inf : TypeInfo} {d : TypeDesc} {y : C} (hop : o.op = .index t x i) (ht : P.underlying t = some (.array len e)) (hx : f.get x = some (.val (.agg cs))) (hi : f.getC i = some (.v (.int kd) n)) (hinf : P.info? e = some inf) (hd : P.underlying e = some d)
    (hns : ∀ fs, d ≠ .struct fs) (hna : ∀ n e, d ≠ .array n e) (h1 : inf.size = 1) (h0 : 0 ≤ n) (hl : n < len) (hy : cs[n.toNat]? = some y) : Val P src c ow f a w o (.val (.one y)) := by
  obtain ⟨vs, hve, ha⟩ := h.get hx
  obtain ⟨ei, _⟩ := RelC_int (h.getC hi)
  obtain ⟨v, hv', hr⟩ := ha.get hy
  have hagg := run_isAgg_other hd hns hna
  refine ⟨v, hr, fun w' _ => ?_⟩
  simp only [execOp, hop, hve, ei]
  refine run_v ?_
  simp only [Instr.index, asIntOf, Sem.run_bind, Sem.run_pure, Result.andThen_ok, run_underlying ht]
  rw [if_pos ⟨h0, hl⟩]
  simp only [Sem.run_bind, run_sizeOf hinf, Result.andThen_ok, h1, part, hagg w', Bool.false_eq_true, if_false, Nat.mul_one]
  simp [hv']
theorem bytes_get {s : ByteArray} {i : Nat} {b : UInt8} (h : s.data.toList[i]? = some b) : s[i]? = some b := by
  rw [Array.getElem?_toList] at h
  obtain ⟨h1, h2⟩ := Array.getElem?_eq_some_iff.1 h
  exact getElem?_eq_some_iff.2 ⟨h1, h2⟩
theorem idxV_sound (h : SimC M src c ow f a w) {t : TypeId} {x i : Operand} {K : S → Option R} {r : R} (hop : o.op = .index t x i) (hv : evIdxV P f t x i K = some r) : ∃ s, Val P src c ow f a w o s ∧ K s = some r := by
  unfold evIdxV at hv
  split at hv
  · rename_i sb kd n ht hx hi
    obtain ⟨b, hb, hv⟩ := bind_some hv
    obtain ⟨p1, p2⟩ := idx_some hb
    obtain ⟨ex, _⟩ := RelC_str (c := c) (ow := ow) (h.get hx)
    obtain ⟨ei, _⟩ := RelC_int (h.getC hi)
    refine ⟨_, ?_, hv⟩
    refine ⟨.int .u8 (b.toNat : Int), mkC_int (c := c) (ow := ow) (plain_byte b), fun w' _ => ?_⟩
    simp only [execOp, hop, ex, ei]
    refine run_v ?_
    have p3 := bytes_get p2
    simp [Instr.index, asIntOf, run_underlying ht, p1, p3]
  · rename_i len e cs kd n ht hx hi
    split at hv
    · rename_i inf hinf hd
      split at hv
      · rename_i hc
        obtain ⟨l, hl, hv⟩ := kOpt_some hv
        obtain ⟨y, hy, hv⟩ := bind_some hv
        obtain ⟨p1, p2⟩ := idx_some hy
        obtain ⟨g1, g2⟩ := litOf_get hl
        have hlt : n.toNat < l.length := (List.getElem?_eq_some_iff.1 p2).1
        exact ⟨_, arr_sound h hop ht hx hi hinf hd (by simp) (by simp) hc.1 p1 (by rw [← hc.2, ← g1]; have := Int.toNat_of_nonneg p1; omega) (g2 _ _ p2), hv⟩
      · cases hv
    · rename_i inf k hinf hd
      split at hv
      · rename_i hc
        obtain ⟨l, hl, hv⟩ := kOpt_some hv
        obtain ⟨y, hy, hv⟩ := bind_some hv
        obtain ⟨p1, p2⟩ := idx_some hy
        obtain ⟨g1, g2⟩ := litOf_get hl
        have hlt : n.toNat < l.length := (List.getElem?_eq_some_iff.1 p2).1
        exact ⟨_, arr_sound h hop ht hx hi hinf hd (by simp) (by simp) hc.1 p1 (by rw [← hc.2, ← g1]; have := Int.toNat_of_nonneg p1; omega) (g2 _ _ p2), hv⟩
      · cases hv
    · cases hv
  · cases hv

/-! ### a slice's bytes as a string; the data behind a cell -/
theorem own_rep {e k : Nat} {t : Ty} {v : Value} {l : List (den t)} {xs : List Value} {G : List Nat} {B : Nat} (h : w.ownsRow B e k v l.length xs) (hk0 : 0 < k) (hk : tyLen t = k) (hr : RepL w xs (l.map (cells t)).flatten G) :
    ∃ G', Rep w v (leafT (.sl t) l) G' ∧ ∀ b ∈ G', v.ownBlock = some b ∨ b ∈ G := by
  have hkk : ∀ z ∈ l.map (cells t), z.length = k := fun z hz => by obtain ⟨y, _, rfl⟩ := List.mem_map.1 hz; rw [cells_len, hk]
  obtain ⟨hl, h2⟩ := h
  rcases h2 with ⟨rfl, h0⟩ | ⟨g, cap, cur, rfl, hB, hh, h1, h2, h3, h4⟩
  · have : l = [] := List.length_eq_zero_iff.1 h0
    subst this
    exact ⟨[], .nil (Nat.zero_le _), by simp⟩
  · rcases Nat.eq_zero_or_pos l.length with h0 | h0
    · have : l = [] := List.length_eq_zero_iff.1 h0
      subst this
      exact ⟨[], .nil h2, by simp⟩
    · refine ⟨g :: G, .cons (k := k) (by simp) h0 hk0 hkk h1 h2 hl (fun j u hu => ?_) hr, fun b hb => ?_⟩
      · rw [Nat.zero_add]
        rw [← h4, List.getElem?_take] at hu
        split at hu
        · simp only [World.cell?, hh]
          simpa using hu
        · cases hu
      · rcases List.mem_cons.1 hb with rfl | hb
        · exact .inl rfl
        · exact .inr hb
/-- Data behind a cell: its blocks are the data's own, or those of one of the frame's objects. -/
theorem data_sound (h : SimC M src c ow f a w) {t : Ty} {x : C} {y : den t} {v : Value} (hd : f.data t x = some y) (hv : RelC c ow w (okB src c ow f.ob) v x) : ∃ G, Rep w v (leafT t y) G ∧ ∀ b ∈ G, src b ∨ M b ∨ ∃ r, ow b = some r := by
  unfold F.data at hd
  split at hd
  · rename_i t' z
    obtain ⟨rfl, rfl⟩ := castTy_some hd
    obtain ⟨G, hr, hG⟩ := hv
    exact ⟨G, hr, fun b hb => .inl (hG b hb).1⟩
  · split at hd
    · injection hd with hd; subst hd
      have hv : v = .slice none 0 0 := hv
      subst hv
      exact ⟨[], .nil (Nat.zero_le _), by simp⟩
    · cases hd
  · rename_i r
    have hv : v = c.rv r := hv
    subst hv
    split at hd
    · rename_i e k t' l deep hrow
      obtain ⟨rfl, rfl⟩ := castTy_some hd
      obtain ⟨r0, r1, r2, xs, G, r3, r4, r5, r6⟩ := h.obj hrow
      obtain ⟨G', g1, g2⟩ := own_rep r3 r0 r1 r4
      refine ⟨G', g1, fun b hb => ?_⟩
      rcases g2 b hb with hb | hb
      · exact .inr (.inl (r2 b hb).1)
      · exact .inl (r5 b hb).1
    · rename_i k t' l hrow
      obtain ⟨rfl, rfl⟩ := castTy_some hd
      obtain ⟨r0, r1, G, r3, r4, r5⟩ := h.obj hrow
      exact ⟨G, r3, fun b hb => .inr (.inl (r5 b hb).1)⟩
    · cases hd
  · rename_i r k i off t' l
    obtain ⟨rfl, rfl⟩ := castTy_some hd
    obtain ⟨_, _, _, _, _, _, G, hr, hG⟩ := hv
    exact ⟨G, hr, fun b hb => .inr (.inr ⟨r, hG b hb⟩)⟩
  · cases hd
theorem RepL_bytes {w : World} : ∀ {l : List Int} {xs : List Value} {G : List Nat}, RepL w xs (l.map (cells (.int .u8))).flatten G → (∀ n ∈ l, 0 ≤ n ∧ n ≤ 255)
  | [], _, _, _ => by intro n hn; cases hn
  | m :: l, xs, G, h => by
    rw [List.map_cons, List.flatten_cons] at h
    cases h with
    | cons h1 h2 =>
      intro n hn
      rcases List.mem_cons.1 hn with rfl | hn
      · cases h1 with
        | lit hp => simpa [plain, IntKind.min, IntKind.max, IntKind.signed, IntKind.bits] using hp
      · exact RepL_bytes h2 n hn
theorem bytes_eq {l : List Int} (h : ∀ n ∈ l, 0 ≤ n ∧ n ≤ 255) : l.map (cells (.int .u8)) = bytesT (toU8 l) := by
  induction l with
  | nil => rfl
  | cons n l ih =>
    have h1 := h n (List.mem_cons_self ..)
    have h2 : ((UInt8.ofNat n.toNat).toNat : Int) = n := by
      rw [UInt8.toNat_ofNat']
      have : n.toNat % 2 ^ 8 = n.toNat := Nat.mod_eq_of_lt (by omega)
      omega
    show cells (.int .u8) n :: l.map (cells (.int .u8)) = [T.lit (.int .u8 ((UInt8.ofNat n.toNat).toNat : Int))] :: bytesT (toU8 l)
    rw [h2, ih fun m hm => h m (List.mem_cons_of_mem _ hm)]
    rfl
theorem str_run {v : Value} {l : List Int} {G : List Nat} (hr : Rep w v (leafT (.sl (.int .u8)) l) G) {t d e : TypeId} (ht : P.underlying t = some (.slice e)) (he : P.underlying e = some (.int .u8)) (hd : P.underlying d = some .string) : (convert t d v).run P w = .ok (.string (strOf l)) w := by
  have hb : ∀ n ∈ l, 0 ≤ n ∧ n ≤ 255 := by
    have hr' := hr
    simp only [leafT] at hr'
    generalize hes : l.map (cells (.int .u8)) = es at hr'
    cases hr' with
    | nil _ =>
      have : l = [] := by simpa using hes
      subst this
      intro n hn; cases hn
    | cons _ _ _ _ _ _ _ _ hr => subst hes; exact RepL_bytes hr
  have hbt := bytes_eq hb
  simp only [leafT] at hr
  rw [hbt] at hr
  unfold strOf
  generalize toU8 l = l at hr
  cases hl : l with
  | nil =>
    subst hl
    have hb : bytesT [] = [] := rfl
    rw [hb] at hr
    cases hr with
    | @nil A cc hc =>
      rw [run_convert_bytes_string w t d e A 0 cc ht he hd]
      cases A with
      | none => simp [Conv.bytesToString]; rfl
      | some ad =>
        have h0 : (loadCells ad 0).run P w = .ok (([] : List Int).map (Value.int .u8)).toArray w := by simp [loadCells, loadCellsFrom]
        rw [run_bytesToString w ad 0 cc [] h0]
        rfl
    | cons hn h0 _ _ _ _ _ _ _ => simp at hn; omega
  | cons b0 l0 =>
    rw [← hl]
    generalize hbt : bytesT l = es at hr
    cases hr with
    | nil hc => rw [hl] at hbt; simp [bytesT] at hbt
    | @cons b off n cc k es' xs F' hn' h0 hk0 hk hc hm hxl hcell hrl =>
      subst hbt
      have hxs := repL_bytes hrl
      have hnl : n = l.length := by rw [← hn']; simp [bytesT]
      rw [run_convert_bytes_string w t d e _ n cc ht he hd]
      have hload : (loadCells ⟨b, off, none⟩ n).run P w = .ok ((l.map fun b => (b.toNat : Int)).map (Value.int .u8)).toArray w := by
        have := run_loadCells_list (P := P) w ⟨b, off, none⟩ xs (fun j u hu => by rw [add_eq]; exact hcell j u hu)
        rw [hxs] at this
        have hlen : (l.map fun b => Value.int .u8 (b.toNat : Int)).length = n := by simp [hnl]
        rw [hlen] at this
        rw [this, List.map_map]
        rfl
      rw [run_bytesToString w _ n cc _ hload, foldl_push]
      simp [ByteArray.empty, ByteArray.emptyWithCapacity]
      rfl
theorem conv_sound (h : SimC M src c ow f a w) {t d : TypeId} {x : Operand} {K : S → Option R} {r : R} (hop : o.op = .convert t d x) (hv : evConv P f t d x K = some r) : ∃ s, Val P src c ow f a w o s ∧ K s = some r := by
  unfold evConv at hv
  split at hv
  · rename_i k0 n ds k hx hs hd
    obtain ⟨ex, _⟩ := RelC_int (h.getC hx)
    refine ⟨_, ?_, hv⟩
    exact ⟨.int k (k.wrap n), mkC_wrap (c := c) (ow := ow) k n, fun w' _ => by simp [execOp, hop, ex, convert, run_underlying hs, run_underlying hd, Conv.intToInt]⟩
  · rename_i y e hx hs hd
    split at hv
    · rename_i l he hl
      obtain ⟨G, hr, _⟩ := data_sound h hl (h.getC hx)
      obtain ⟨ad, cap, hve, hm⟩ := Rep.len (es := l.map (cells (.int .u8))) hr
      rw [List.length_map] at hm
      refine ⟨_, ?_, hv⟩
      refine ⟨.string (strOf l), mkC_str (c := c) (ow := ow) ?_, fun w' hw' => ?_⟩
      · show (toU8 l).toArray.size ≤ maxLen
        simpa [toU8] using hm
      · simp only [execOp, hop]
        exact run_v (str_run (hr.frame fun b hb => hw' b (hr.lt b hb)) hs he hd)
    · cases hv
  · cases hv

theorem evVal_sound (h : SimC M src c ow f a w) {K : S → Option R} {r : R} (hv : evVal P f K o.op = some r) : ∃ s, Val P src c ow f a w o s ∧ K s = some r := by
  cases hop : o.op with
  | move x => rw [hop] at hv; exact move_sound h (.inl hop) hv
  | assign x => rw [hop] at hv; exact move_sound h (.inr hop) hv
  | pick z x y => rw [hop] at hv; exact pick_sound h hop hv
  | load t p => rw [hop] at hv; exact load_sound h hop hv
  | nilCheck x => rw [hop] at hv; exact nil_sound h hop hv
  | binOp op t x y t' =>
    rw [hop] at hv
    simp only [evVal, evBin] at hv
    split at hv
    · rename_i h1 h2; exact bin_sound h hop h1 h2 hv
    · exact eq_sound h hop hv
  | unOp op t x =>
    rw [hop] at hv
    cases op with
    | not =>
      simp only [evVal] at hv
      split at hv
      · rename_i b hx
        have ex := RelC_bool (h.getC hx)
        refine ⟨_, ?_, hv⟩
        exact ⟨.bool (!b), mkC_bool (c := c) (ow := ow) _, fun w' _ => by simp [execOp, hop, ex, Op.unary]⟩
      · cases hv
    | neg =>
      simp only [evVal] at hv
      split at hv
      · rename_i k n hx
        obtain ⟨ex, _⟩ := RelC_int (h.getC hx)
        refine ⟨_, ?_, hv⟩
        exact ⟨.int k (k.wrap (0 - n)), mkC_wrap (c := c) (ow := ow) _ _, fun w' _ => by simp [execOp, hop, ex, Op.unary, Op.intArith]⟩
      · cases hv
    | _ => cases hv
  | convert t d x => rw [hop] at hv; exact conv_sound h hop hv
  | fieldAddr t x j => rw [hop] at hv; exact field_sound h hop hv
  | field t x j => rw [hop] at hv; exact fieldV_sound h hop hv
  | build t ps => rw [hop] at hv; exact build_sound h hop hv
  | slice t x lo hi mx =>
    rw [hop] at hv
    cases mx with
    | none => exact slice_sound h hop hv
    | some m => cases hv
  | index t x i => rw [hop] at hv; exact idxV_sound h hop hv
  | indexAddr t x i => rw [hop] at hv; exact index_sound h hop hv
  | extract x i =>
    rw [hop] at hv
    simp only [evVal] at hv
    split at hv
    · rename_i xs hx
      obtain ⟨y, hy, hv⟩ := kOpt_some hv
      obtain ⟨vs, hve, ha⟩ := h.get hx
      obtain ⟨v, hv', hr⟩ := ha.get hy
      refine ⟨_, ?_, hv⟩
      refine ⟨v, hr, fun w' _ => ?_⟩
      simp [execOp, hop, hve, Instr.extract, hv']
    · cases hv
  | call cl =>
    rw [hop] at hv
    simp only [evVal] at hv
    split at hv
    · rename_i x t h1 h2 h3
      refine len_sound h ?_ hv
      rw [hop]
      congr 1
      obtain ⟨cal, ar, ty⟩ := cl
      simp only at h1 h2 h3
      obtain ⟨ar⟩ := ar
      obtain ⟨ty⟩ := ty
      simp only at h2 h3
      subst h1 h2 h3
      rfl
    · rename_i x y h1 h2; exact mm_sound (mx := true) h hop h1 h2 hv
    · rename_i x y h1 h2; exact mm_sound (mx := false) h hop h1 h2 hv
    · cases hv
  | _ => rw [hop] at hv; cases hv
end
end Go.V
