/-
  Operations that leave a value and nothing else: the model gives what their meaning says. Over any program. Conditions: none beyond the meaning.
-/
import Derived.Test.YtdmiboplfgmgiaaW6
set_option linter.unusedVariables false
set_option linter.unusedSectionVars false
namespace Go.V
open Go.Ab Go.RowKit

section
variable {M src : Nat → Prop} {c : Cx} {ow : Nat → Option Nat} {f : F} {a : Act} {w : World} {P : Program} {o : Oper} {ok : Nat → Prop} {R : Type}

/-! ### leaves -/
theorem RelC_int {k : IntKind} {x : Int} {v : Value} (h : RelC c ow w ok v (.v (.int k) x)) : v = .int k x ∧ plain (.int k x) = true := by
  obtain ⟨G, hr, _⟩ := h
  cases hr with
  | lit hp => exact ⟨rfl, hp⟩
theorem RelC_bool {x : Bool} {v : Value} (h : RelC c ow w ok v (.v .bool x)) : v = .bool x := by
  obtain ⟨G, hr, _⟩ := h
  cases hr with
  | lit hp => rfl
theorem RelC_str {x : ByteArray} {v : Value} (h : RelC c ow w ok v (.v .str x)) : v = .string x ∧ x.size ≤ maxLen := by
  obtain ⟨G, hr, _⟩ := h
  cases hr with
  | lit hp => exact ⟨rfl, by simpa [plain] using hp⟩
theorem mkC_int {k : IntKind} {x : Int} (h : plain (.int k x) = true) : RelC c ow w ok (.int k x) (.v (.int k) x) := ⟨[], .lit h, by simp⟩
theorem mkC_wrap (k : IntKind) (x : Int) : RelC c ow w ok (.int k (k.wrap x)) (.v (.int k) (k.wrap x)) := mkC_int (plain_wrap k x)
theorem mkC_bool (x : Bool) : RelC c ow w ok (.bool x) (.v .bool x) := ⟨[], .lit rfl, by simp⟩
theorem mkC_str {x : ByteArray} (h : x.size ≤ maxLen) : RelC c ow w ok (.string x) (.v .str x) := ⟨[], .lit (by simpa [plain] using h), by simp⟩

/-- The cells of data, as leaves of a frame. -/
theorem rel_split : ∀ (t : Ty) (x : den t) {xs : List Value} {G : List Nat}, RepL w xs (cells t x) G → (∀ b ∈ G, ok b) → All2 (RelC c ow w ok) xs (split t x)
  | .int k, x, xs, G, h, hG => by
    simp only [cells] at h
    cases h with
    | cons h hs => cases hs; exact .cons ⟨_, h, fun b hb => hG b (by simpa using hb)⟩ .nil
  | .bool, x, xs, G, h, hG => by
    simp only [cells] at h
    cases h with
    | cons h hs => cases hs; exact .cons ⟨_, h, fun b hb => hG b (by simpa using hb)⟩ .nil
  | .str, x, xs, G, h, hG => by
    simp only [cells] at h
    cases h with
    | cons h hs => cases hs; exact .cons ⟨_, h, fun b hb => hG b (by simpa using hb)⟩ .nil
  | .sl t, x, xs, G, h, hG => by
    simp only [cells] at h
    cases h with
    | cons h hs => cases hs; exact .cons ⟨_, h, fun b hb => hG b (by simpa using hb)⟩ .nil
  | .pair a b, x, xs, G, h, hG => by
    simp only [cells] at h
    obtain ⟨G1, G2, h1, h2, rfl⟩ := h.take (cells a x.1).length
    rw [List.take_left] at h1
    rw [List.drop_left] at h2
    have := (rel_split a x.1 h1 fun b hb => hG b (List.mem_append_left _ hb)).append (rel_split b x.2 h2 fun b hb => hG b (List.mem_append_right _ hb))
    rwa [List.take_append_drop] at this
theorem subs_append (r k i : Nat) : ∀ (xs ys : List C) (off : Nat), subs r k i off (xs ++ ys) = subs r k i off xs ++ subs r k i (off + xs.length) ys
  | [], ys, off => by simp [subs]
  | x :: xs, ys, off => by
    have := subs_append r k i xs ys (off + 1)
    cases x with
    | v t y =>
      cases t with
      | sl t => simp only [List.cons_append, subs, this, List.length_cons]; congr 2; congr 1; omega
      | _ => simp only [List.cons_append, subs, this, List.length_cons]; congr 2; congr 1; omega
    | _ => simp only [List.cons_append, subs, this, List.length_cons]; congr 2; congr 1; omega
/-- The cells of a window's element, as leaves of a frame. -/
theorem rel_subs {r k i g b0 n cap : Nat} (hrv : c.rv r = .slice (some ⟨g, b0, none⟩) n cap) : ∀ (t : Ty) (x : den t) {xs : List Value} {G : List Nat} (off : Nat), RepL w xs (cells t x) G → (∀ b ∈ G, ow b = some r) →
    (∀ j u, xs[j]? = some u → w.cell? ⟨g, b0 + (i * k + (off + j)), none⟩ = some u) → All2 (RelC c ow w ok) xs (subs r k i off (split t x))
  | .int k, x, xs, G, off, h, hG, hc => by
    simp only [cells] at h
    cases h with
    | cons h hs => cases hs; cases h with | lit hp => exact .cons (mkC_int hp) .nil
  | .bool, x, xs, G, off, h, hG, hc => by
    simp only [cells] at h
    cases h with
    | cons h hs => cases hs; cases h with | lit hp => exact .cons (mkC_bool _) .nil
  | .str, x, xs, G, off, h, hG, hc => by
    simp only [cells] at h
    cases h with
    | cons h hs => cases hs; cases h with | lit hp => exact .cons (mkC_str (by simpa [plain] using hp)) .nil
  | .sl t, x, xs, G, off, h, hG, hc => by
    simp only [cells] at h
    cases h with
    | cons h hs =>
      cases hs
      exact .cons ⟨g, b0, n, cap, hrv, by simpa using hc 0 _ rfl, _, h, fun b hb => hG b (by simpa using hb)⟩ .nil
  | .pair a b, x, xs, G, off, h, hG, hc => by
    simp only [cells] at h
    obtain ⟨G1, G2, h1, h2, rfl⟩ := h.take (cells a x.1).length
    rw [List.take_left] at h1
    rw [List.drop_left] at h2
    have e1 := rel_subs hrv a x.1 off h1 (fun b hb => hG b (List.mem_append_left _ hb)) (fun j u hu => hc j u (by
      rw [List.getElem?_take] at hu
      split at hu
      · exact hu
      · cases hu))
    have e2 := rel_subs hrv b x.2 (off + (cells a x.1).length) h2 (fun b hb => hG b (List.mem_append_right _ hb)) (fun j u hu => by
      rw [List.getElem?_drop] at hu
      have := hc _ u hu
      rw [Nat.add_assoc off]
      exact this)
    have := e1.append e2
    rw [List.take_append_drop] at this
    rw [split, subs_append, split_len, ← cells_len a x.1]
    exact this

/-! ### operands -/
theorem RelS_const {v : Value} {x : S} (h : constS v = some x) : RelS c ow w ok v x := by
  unfold constS at h
  split at h
  · split at h
    · rename_i hp; injection h with h; subst h; exact mkC_int (c := c) (ow := ow) hp
    · cases h
  · injection h with h; subst h; exact mkC_bool (c := c) (ow := ow) _
  · split at h
    · rename_i hp; injection h with h; subst h; exact mkC_str (c := c) (ow := ow) (by simpa [plain] using hp)
    · cases h
  · injection h with h; subst h; rfl
  · cases h
theorem look_mem {s : Nat} {x : S} (h : f.look s = some x) : ∃ n, (s, n, x) ∈ f.fr := by
  unfold F.look at h
  obtain ⟨⟨s', n, e⟩, he, rfl⟩ := Option.map_eq_some_iff.1 h
  have h1 := List.mem_of_find?_eq_some he
  have h2 := List.find?_some he
  simp at h2
  subst h2
  exact ⟨n, h1⟩
theorem obj_mem {o : Nat} {x : O} (h : f.obj o = some x) : ∃ n, (o, n, x) ∈ f.ob := by
  unfold F.obj at h
  obtain ⟨⟨s', n, e⟩, he, rfl⟩ := Option.map_eq_some_iff.1 h
  have h1 := List.mem_of_find?_eq_some he
  have h2 := List.find?_some he
  simp at h2
  subst h2
  exact ⟨n, h1⟩
theorem SimC.look (h : SimC M src c ow f a w) {s : Nat} {x : S} (hl : f.look s = some x) : ∃ v, a.tmps[s]? = some v ∧ RelS c ow w (okB src c ow f.ob) v x := by
  obtain ⟨n, hm⟩ := look_mem hl
  exact h.fr s n x hm
theorem SimC.obj (h : SimC M src c ow f a w) {o : Nat} {x : O} (hl : f.obj o = some x) : ObOk M c ow w (okB src c ow f.ob) o x := by
  obtain ⟨n, hm⟩ := obj_mem hl
  exact h.ob o n x hm
theorem SimC.get (h : SimC M src c ow f a w) {x : Operand} {s : S} (hg : f.get x = some s) : RelS c ow w (okB src c ow f.ob) (a.eval x) s := by
  cases x with
  | tmp t =>
    obtain ⟨v, hv, h1⟩ := h.look hg
    have he : a.eval (.tmp t) = v := by simp [Act.eval, Array.getD_eq_getD_getElem?, hv]
    rw [he]
    exact h1
  | const v => exact RelS_const hg
  | global g => cases hg
  | func f => cases hg
theorem SimC.getC (h : SimC M src c ow f a w) {x : Operand} {y : C} (hg : f.getC x = some y) : RelC c ow w (okB src c ow f.ob) (a.eval x) y := by
  unfold F.getC at hg
  split at hg
  · rename_i z hz
    injection hg with hg
    subst hg
    exact h.get hz
  · cases hg
theorem kOpt_some {α : Type} {x : Option α} {K : α → Option R} {r : R} (h : kOpt x K = some r) : ∃ y, x = some y ∧ K y = some r := by
  cases x with
  | none => cases h
  | some y => exact ⟨y, rfl, h⟩
theorem cond_some {b : Bool} {x y : Option R} {r : R} (h : cond b x y = some r) : (b = true ∧ x = some r) ∨ (b = false ∧ y = some r) := by
  cases b with
  | true => exact .inl ⟨rfl, h⟩
  | false => exact .inr ⟨rfl, h⟩
theorem bind_some {α : Type} {x : Option α} {K : α → Option R} {r : R} (h : Option.bind x K = some r) : ∃ y, x = some y ∧ K y = some r := by
  cases x with
  | none => cases h
  | some y => exact ⟨y, rfl, h⟩
theorem idx_some {α : Type} {l : List α} {i : Int} {x : α} (h : idx l i = some x) : 0 ≤ i ∧ l[i.toNat]? = some x := by
  unfold idx at h
  rcases cond_some h with ⟨h1, h2⟩ | ⟨_, h2⟩
  · exact ⟨by simpa using h1, h2⟩
  · cases h2

/-! ### cells read -/
theorem rdC_sound {t : TypeId} {off : Nat} {cs : List C} {x : A} {xs : List Value} (h : rdC P t off cs = some x) (ha : All2 (RelC c ow w ok) xs cs) :
    ∃ v, RelA c ow w ok v x ∧ ∀ (w' : World) (b base : Nat), (∀ j u, xs[j]? = some u → w'.cell? ⟨b, base + j, none⟩ = some u) → (loadVar t ⟨b, base + off, none⟩).run P w' = .ok v w' := by
  have agg : ∀ (i : TypeInfo), P.info? t = some i → (∀ w', (isAgg t).run P w' = .ok true w') → off + i.size ≤ cs.length → x = .agg ((cs.drop off).take i.size) →
      ∃ v, RelA c ow w ok v x ∧ ∀ (w' : World) (b base : Nat), (∀ j u, xs[j]? = some u → w'.cell? ⟨b, base + j, none⟩ = some u) → (loadVar t ⟨b, base + off, none⟩).run P w' = .ok v w' := by
    intro i hi hag hle hx
    subst hx
    refine ⟨.agg ((xs.drop off).take i.size).toArray, ⟨_, rfl, (ha.drop off).take i.size⟩, fun w' b base hc => ?_⟩
    refine run_loadVar_agg (hag w') hi ?_ ?_
    · rw [List.length_take, List.length_drop, ha.length]; omega
    · intro j u hu
      rw [add_eq]
      have hj : xs[off + j]? = some u := by
        rw [List.getElem?_take] at hu
        split at hu
        · rw [List.getElem?_drop] at hu; exact hu
        · cases hu
      have := hc (off + j) u hj
      rw [Nat.add_assoc]
      exact this
  unfold rdC at h
  split at h
  · rename_i i fs hi hu
    split at h
    · rename_i hle
      injection h with h
      exact agg i hi (run_isAgg_struct hu) hle h.symm
    · cases h
  · rename_i i n e hi hu
    split at h
    · rename_i hle
      injection h with h
      exact agg i hi (run_isAgg_array hu) hle h.symm
    · cases h
  · rename_i i d hns hna hi hu
    obtain ⟨t', ht', rfl⟩ := Option.map_eq_some_iff.1 h
    obtain ⟨u, hu', hr⟩ := ha.get ht'
    exact ⟨u, hr, fun w' b base hc => run_loadVar_one (run_isAgg_other hu (fun fs e => hns fs e) (fun n e' h => hna n e' h) w') (hc off u hu')⟩
  · cases h
theorem part_sound {t : TypeId} {off : Nat} {cs : List C} {x : A} {vs : List Value} (h : rdC P t off cs = some x) (ha : All2 (RelC c ow w ok) vs cs) : ∃ v, RelA c ow w ok v x ∧ ∀ w' : World, (part t vs.toArray off).run P w' = .ok v w' := by
  have agg : ∀ (i : TypeInfo), P.info? t = some i → (∀ w', (isAgg t).run P w' = .ok true w') → off + i.size ≤ cs.length → x = .agg ((cs.drop off).take i.size) → ∃ v, RelA c ow w ok v x ∧ ∀ w' : World, (part t vs.toArray off).run P w' = .ok v w' := by
    intro i hi hag hle hx
    subst hx
    refine ⟨.agg ((vs.drop off).take i.size).toArray, ⟨_, rfl, (ha.drop off).take i.size⟩, fun w' => ?_⟩
    simp only [part, Sem.run_bind, hag w', Result.andThen_ok, if_true, run_sizeOf hi]
    have : vs.toArray.extract off (off + i.size) = ((vs.drop off).take i.size).toArray := by
      simp
    rw [this]
    rfl
  unfold rdC at h
  split at h
  · rename_i i fs hi hu
    split at h
    · rename_i hle; injection h with h; exact agg i hi (run_isAgg_struct hu) hle h.symm
    · cases h
  · rename_i i n e hi hu
    split at h
    · rename_i hle; injection h with h; exact agg i hi (run_isAgg_array hu) hle h.symm
    · cases h
  · rename_i i d hns hna hi hu
    obtain ⟨t', ht', rfl⟩ := Option.map_eq_some_iff.1 h
    obtain ⟨u, hu', hr⟩ := ha.get ht'
    refine ⟨u, hr, fun w' => ?_⟩
    simp only [part, Sem.run_bind, run_isAgg_other hu (fun fs e => hns fs e) (fun n e' h => hna n e' h) w', Result.andThen_ok, Bool.false_eq_true, if_false]
    simp [hu']
  · cases h

/-- The operation leaves a value that s speaks of. -/
def Val (P : Program) (src : Nat → Prop) (c : Cx) (ow : Nat → Option Nat) (f : F) (a : Act) (w : World) (o : Oper) (s : S) : Prop := ∃ v, RelS c ow w (okB src c ow f.ob) v s ∧ Gives P a w o v

/-- An element of a row. -/
theorem row_elem {r e k : Nat} {t : Ty} {l : List (den t)} {deep : Bool} (h : RowOk M c ow w ok r e k t l deep) {i : Nat} {x : den t} (hi : l[i]? = some x) {g b0 n cap : Nat} (hv : c.rv r = .slice (some ⟨g, b0, none⟩) n cap) :
    b0 = 0 ∧ ∃ (xs : List Value) (G : List Nat), RepL w xs (cells t x) G ∧ (∀ b ∈ G, ok b) ∧ (∀ j u, xs[j]? = some u → w.cell? ⟨g, i * k + j, none⟩ = some u) ∧ g < w.heap.size := by
  obtain ⟨h0, h1, h2, xs, G, h3, h4, h5, _⟩ := h
  have hk : ∀ z ∈ l.map (cells t), z.length = k := fun z hz => by obtain ⟨y, _, rfl⟩ := List.mem_map.1 hz; rw [cells_len, h1]
  have hi' : (l.map (cells t))[i]? = some (cells t x) := by simp [hi]
  have hil : i < l.length := (List.getElem?_eq_some_iff.1 hi).1
  have hle : (i + 1) * k ≤ l.length * k := Nat.mul_le_mul_right _ hil
  obtain ⟨G1, H, g1, g2, g3⟩ := h4.take (i * k)
  obtain ⟨G', H', g4, g5, g6⟩ := g2.take k
  rw [flatten_get hk hi'] at g4
  have hlt := (ownsRow_lt h3 (g := g) (by simp [hv, Value.ownBlock])).1
  obtain ⟨hxl, hr⟩ := h3
  rcases hr with ⟨hn, _⟩ | ⟨g', cap', cur, hv', hB, hh, hnc, hcm, hsz, htk⟩
  · rw [hv] at hn; cases hn
  · rw [hv] at hv'
    injection hv' with e1 e2 e3
    injection e1 with e1
    injection e1 with e1 e0 _
    subst e1
    refine ⟨e0, _, G', g4, fun b hb => h5 b (by rw [g3, g6]; simp [hb]), fun j u hu => ?_, hlt⟩
    have hj : xs[i * k + j]? = some u := by
      rw [List.getElem?_take] at hu
      split at hu
      · rw [List.getElem?_drop] at hu; exact hu
      · cases hu
    have hlt : i * k + j < l.length * k := by
      have := (List.getElem?_eq_some_iff.1 hj).1
      omega
    rw [← htk, List.getElem?_take, if_pos hlt] at hj
    simp only [World.cell?, hh]
    simpa using hj
/-- An element of a window. -/
theorem win_elem {r k : Nat} {t : Ty} {l : List (den t)} (h : WinOk M c ow w r k t l) {i : Nat} {x : den t} (hi : l[i]? = some x) {g b0 n cap : Nat} (hv : c.rv r = .slice (some ⟨g, b0, none⟩) n cap) :
    ∃ (xs : List Value) (G : List Nat), RepL w xs (cells t x) G ∧ (∀ b ∈ G, ow b = some r) ∧ (∀ j u, xs[j]? = some u → w.cell? ⟨g, b0 + (i * k + j), none⟩ = some u) ∧ g < w.heap.size := by
  obtain ⟨h0, h1, G, h2, h3, h4⟩ := h
  have hi' : (l.map (cells t))[i]? = some (cells t x) := by simp [hi]
  obtain ⟨b, off, n', cap', xs, G', hve, hin, hlt, hbG, g1, g2, g3⟩ := Rep.elem (es := l.map (cells t)) h2 hi'
  rw [hv] at hve
  injection hve with e1 e2 e3
  injection e1 with e1
  injection e1 with e1 e0 _
  subst e1 e0
  refine ⟨xs, G', g1, fun b hb => (h4 b (g3 b hb)).2.1, fun j u hu => ?_, hlt⟩
  have := g2 j u hu
  rw [cells_len, h1] at this
  rw [← Nat.add_assoc]
  exact this

theorem load_sound (h : SimC M src c ow f a w) {t : TypeId} {p : Operand} {K : S → Option R} {r : R} (hop : o.op = .load t p) (hv : evLoad P f t p K = some r) : ∃ s, Val P src c ow f a w o s ∧ K s = some r := by
  unfold evLoad at hv
  split at hv
  · rename_i i off hp
    split at hv
    · rename_i cs hb
      obtain ⟨x, hx, hk⟩ := kOpt_some hv
      refine ⟨_, ?_, hk⟩
      have hpv : a.eval p = .pointer (some ⟨c.loc i, off, none⟩) := h.getC hp
      have hbx : BoxOk M c ow w (okB src c ow f.ob) i cs := h.obj hb
      have hlt := hbx.lt
      obtain ⟨_, _, vs, ty, hh, ha⟩ := hbx
      obtain ⟨v, hr, hl⟩ := rdC_sound hx ha
      refine ⟨v, hr, fun w' hw' => ?_⟩
      have h1 := hl w' (c.loc i) 0 (cells_of_block ((hw' _ hlt).trans hh))
      rw [Nat.zero_add] at h1
      simp only [execOp, hop, hpv]
      exact run_v (run_loadAt h1)
    · cases hv
  · rename_i ty e off hp
    obtain ⟨x, hx, hk⟩ := kOpt_some hv
    refine ⟨_, ?_, hk⟩
    obtain ⟨b, base, hpv, hb, hlt, xs, G, hr, hc, hG⟩ := h.getC hp
    obtain ⟨v, hrv, hl⟩ := rdC_sound hx (rel_split (c := c) (ow := ow) ty e hr hG)
    refine ⟨v, hrv, fun w' hw' => ?_⟩
    have h1 := hl w' b base fun j u hu => (World.cell?_of_block (hw' b hlt)).trans (hc j u hu)
    simp only [execOp, hop, hpv]
    exact run_v (run_loadAt h1)
  · rename_i rr k i off hp
    obtain ⟨g, b0, n, cap, hrv, hpv⟩ := h.getC hp
    split at hv
    · rename_i e k' ty l deep hrow
      split at hv
      · rename_i hk
        subst hk
        obtain ⟨x, hx, hk⟩ := bind_some hv
        obtain ⟨y, hy, hk⟩ := kOpt_some hk
        refine ⟨_, ?_, hk⟩
        obtain ⟨rfl, xs, G, hr, hG, hc, hlt⟩ := row_elem (h.obj hrow) hx hrv
        obtain ⟨v, hvr, hl⟩ := rdC_sound hy (rel_split (c := c) (ow := ow) ty x hr hG)
        refine ⟨v, hvr, fun w' hw' => ?_⟩
        have h1 := hl w' g (i * k) fun j u hu => (World.cell?_of_block (hw' g hlt)).trans (hc j u hu)
        simp only [execOp, hop, hpv, Nat.zero_add]
        exact run_v (run_loadAt h1)
      · cases hv
    · rename_i k' ty l hrow
      split at hv
      · rename_i hk
        subst hk
        obtain ⟨x, hx, hk⟩ := bind_some hv
        obtain ⟨y, hy, hk⟩ := kOpt_some hk
        refine ⟨_, ?_, hk⟩
        obtain ⟨xs, G, hr, hG, hc, hlt⟩ := win_elem (h.obj hrow) hx hrv
        obtain ⟨v, hvr, hl⟩ := rdC_sound hy (rel_subs (ok := okB src c ow f.ob) hrv ty x 0 hr hG (fun j u hu => by rw [Nat.zero_add]; exact hc j u hu))
        refine ⟨v, hvr, fun w' hw' => ?_⟩
        have h1 := hl w' g (b0 + i * k) fun j u hu => by
          rw [Nat.add_assoc]
          exact (World.cell?_of_block (hw' g hlt)).trans (hc j u hu)
        simp only [execOp, hop, hpv]
        rw [Nat.add_assoc] at h1
        exact run_v (run_loadAt h1)
      · cases hv
    · cases hv
  · cases hv

theorem move_sound (h : SimC M src c ow f a w) {x : Operand} {K : S → Option R} {r : R} (hop : o.op = .move x ∨ o.op = .assign x) (hv : kOpt (f.get x) K = some r) : ∃ s, Val P src c ow f a w o s ∧ K s = some r := by
  obtain ⟨s, hs, hk⟩ := kOpt_some hv
  refine ⟨s, ⟨a.eval x, h.get hs, fun w' _ => ?_⟩, hk⟩
  rcases hop with hop | hop <;> simp [execOp, hop]
theorem pick_sound (h : SimC M src c ow f a w) {z x y : Operand} {K : S → Option R} {r : R} (hop : o.op = .pick z x y) (hv : (match f.getC z with | some (.v .bool b) => cond b (kOpt (f.get x) K) (kOpt (f.get y) K) | _ => none) = some r) : ∃ s, Val P src c ow f a w o s ∧ K s = some r := by
  split at hv
  · rename_i b hc
    have hcv := RelC_bool (h.getC hc)
    rcases cond_some hv with ⟨rfl, hv⟩ | ⟨rfl, hv⟩
    · obtain ⟨s, hs, hk⟩ := kOpt_some hv
      exact ⟨s, ⟨a.eval x, h.get hs, fun w' _ => by simp [execOp, hop, hcv, asBool]⟩, hk⟩
    · obtain ⟨s, hs, hk⟩ := kOpt_some hv
      exact ⟨s, ⟨a.eval y, h.get hs, fun w' _ => by simp [execOp, hop, hcv, asBool]⟩, hk⟩
  · cases hv
theorem nil_sound (h : SimC M src c ow f a w) {x : Operand} {K : S → Option R} {r : R} (hop : o.op = .nilCheck x) (hv : (match f.getC x with
    | some (.ptr o off) => K (.val (.one (.ptr o off)))
    | some (.ep t e off) => K (.val (.one (.ep t e off)))
    | some (.rp r k i off) => K (.val (.one (.rp r k i off)))
    | _ => none) = some r) : ∃ s, Val P src c ow f a w o s ∧ K s = some r := by
  split at hv <;> first | (cases hv; done) | skip
  all_goals
    rename_i hx
    have hr := h.getC hx
    refine ⟨_, ?_, hv⟩
    refine ⟨a.eval x, hr, fun w' _ => ?_⟩
  · have he : a.eval x = _ := hr
    simp [execOp, hop, he]
  · obtain ⟨b, base, he, _⟩ := hr
    simp [execOp, hop, he]
  · obtain ⟨g, b0, n, cap, _, he⟩ := hr
    simp [execOp, hop, he]
end
end Go.V
