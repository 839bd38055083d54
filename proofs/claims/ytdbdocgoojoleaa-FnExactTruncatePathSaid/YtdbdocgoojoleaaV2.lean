/-
  Typed frames and what code makes of them, over any program: part 2. Conditions: none.
-/
import Derived.Test.YtdbdocgoojoleaaV1
set_option linter.unusedVariables false
set_option linter.unusedSectionVars false
namespace Go.V
open Go.Ab Go.RowKit

section
variable {M src : Nat → Prop} {c : Cx} {ow : Nat → Option Nat} {f : F} {a : Act} {w : World} {P : Program} {ok : Nat → Prop}

/-- The data of a cell. -/
def DT (f : F) (x : C) (τ : T) : Prop := ∃ (t : Ty) (y : den t), f.data t x = some y ∧ τ = leafT t y
theorem dataL_all2 : ∀ {t : Ty} {cs : List C} {z : den t}, f.dataL t cs = some (z, []) → All2 (DT f) cs (cells t z)
  | .int k, cs, z, h => by obtain ⟨x, rfl, hx⟩ := dataL_one (by simp) h; exact .cons ⟨_, z, hx, rfl⟩ .nil
  | .bool, cs, z, h => by obtain ⟨x, rfl, hx⟩ := dataL_one (by simp) h; exact .cons ⟨_, z, hx, rfl⟩ .nil
  | .str, cs, z, h => by obtain ⟨x, rfl, hx⟩ := dataL_one (by simp) h; exact .cons ⟨_, z, hx, rfl⟩ .nil
  | .sl t, cs, z, h => by obtain ⟨x, rfl, hx⟩ := dataL_one (by simp) h; exact .cons ⟨_, z, hx, rfl⟩ .nil
  | .pair a b, cs, z, h => by
    obtain ⟨u1, u2, rfl, _, h1, h2⟩ := dataL_pair h
    exact (dataL_all2 h1).append (dataL_all2 h2)
theorem castTy_self {t : Ty} (x : den t) : castTy t t x = some x := by simp [castTy]
theorem split_all2 (f : F) : ∀ (t : Ty) (x : den t), All2 (DT f) (split t x) (cells t x)
  | .int k, x => .cons ⟨.int k, x, castTy_self (t := .int k) x, rfl⟩ .nil
  | .bool, x => .cons ⟨.bool, x, castTy_self (t := .bool) x, rfl⟩ .nil
  | .str, x => .cons ⟨.str, x, castTy_self (t := .str) x, rfl⟩ .nil
  | .sl t, x => .cons ⟨.sl t, x, castTy_self (t := .sl t) x, rfl⟩ .nil
  | .pair a b, x => (split_all2 f a x.1).append (split_all2 f b x.2)
theorem split_v : ∀ (t : Ty) (x : den t), ∀ y ∈ split t x, ∃ (t' : Ty) (z : den t'), y = .v t' z
  | .int k, x, y, h => ⟨_, _, List.mem_singleton.1 h⟩
  | .bool, x, y, h => ⟨_, _, List.mem_singleton.1 h⟩
  | .str, x, y, h => ⟨_, _, List.mem_singleton.1 h⟩
  | .sl t, x, y, h => ⟨_, _, List.mem_singleton.1 h⟩
  | .pair a b, x, y, h => (List.mem_append.1 h).elim (split_v a x.1 y) (split_v b x.2 y)
theorem DT_v {t : Ty} {z : den t} {τ : T} (h : DT f (.v t z) τ) : τ = leafT t z := by
  obtain ⟨t', y, hy, rfl⟩ := h
  obtain ⟨rfl, rfl⟩ := castTy_some hy
  rfl
theorem DT_fun : ∀ {cs : List C} {xs ys : List T}, (∀ y ∈ cs, ∃ (t' : Ty) (z : den t'), y = .v t' z) → All2 (DT f) cs xs → All2 (DT f) cs ys → xs = ys := by
  intro cs
  induction cs with
  | nil => intro xs ys _ h1 h2; cases h1; cases h2; rfl
  | cons x cs ih =>
    intro xs ys hv h1 h2
    cases h1 with
    | cons a1 b1 =>
      cases h2 with
      | cons a2 b2 =>
        obtain ⟨t, z, rfl⟩ := hv x (List.mem_cons_self ..)
        rw [DT_v a1, DT_v a2, ih (fun y hy => hv y (List.mem_cons_of_mem _ hy)) b1 b2]
/-- An element with some cells replaced. -/
theorem dataL_sp {t : Ty} {el z : den t} {off : Nat} {ys : List C} (hle : off + ys.length ≤ tyLen t) (h : f.dataL t (sp (split t el) off ys) = some (z, [])) : ∃ ts, All2 (DT f) ys ts ∧ cells t z = sp (cells t el) off ts := by
  have h1 := dataL_all2 h
  have h2 := split_all2 f t el
  have hl : (split t el).length = tyLen t := split_len t el
  unfold sp at h1
  have ht : ((split t el).take off).length = off := by simp; omega
  refine ⟨((cells t z).drop off).take ys.length, ?_, ?_⟩
  · have := ((h1.drop off).take ys.length)
    rw [List.append_assoc, List.drop_append, ht, Nat.sub_self, List.drop_zero, List.drop_eq_nil_of_le (by omega), List.nil_append, List.take_left] at this
    exact this
  · have hlz : (cells t z).length = tyLen t := cells_len t z
    have hle2 : (cells t el).length = tyLen t := cells_len t el
    have e1 : (cells t z).take off = (cells t el).take off := by
      have a1 := h1.take off
      rw [List.append_assoc, List.take_append, ht, Nat.sub_self, List.take_zero, List.append_nil, List.take_take, Nat.min_self] at a1
      exact DT_fun (f := f) (fun y hy => split_v t el y (List.mem_of_mem_take hy)) a1 (h2.take off)
    have e2 : (cells t z).drop (off + ys.length) = (cells t el).drop (off + ys.length) := by
      have a1 := h1.drop (off + ys.length)
      rw [List.drop_append, List.length_append, ht, Nat.sub_self, List.drop_zero, List.drop_eq_nil_of_le (by simp; omega), List.nil_append] at a1
      exact DT_fun (f := f) (fun y hy => split_v t el y (List.mem_of_mem_drop hy)) a1 (h2.drop (off + ys.length))
    unfold sp
    have hll : (((cells t z).drop off).take ys.length).length = ys.length := by simp; omega
    rw [hll, ← e1, ← e2, ← List.drop_drop]
    rw [List.append_assoc, List.take_append_drop, List.take_append_drop]
/-- Cells that are moved, with their blocks. -/
theorem mvs_sound (h : SimC M src c ow f a w) : ∀ {cs : List C} {ts : List T} {vs : List Value} {ids : List Nat} {dp : Bool}, All2 (DT f) cs ts → mvCs f cs = some (ids, dp) → All2 (RelC c ow w (okB src c ow f.ob)) vs cs → ids.Nodup → ∃ G, RepL w vs ts G ∧ Taken M c ow w (okB src c ow f.ob) ids dp G := by
  intro cs
  induction cs with
  | nil =>
    intro ts vs ids dp hd hm hv _
    cases hd; cases hv
    injection hm with hm; injection hm with e1 e2; subst e1 e2
    exact ⟨[], .nil, by simp, fun _ => by simp⟩
  | cons x cs ih =>
    intro ts vs ids dp hd hm hv hn
    unfold mvCs at hm
    split at hm
    · rename_i i1 d1 i2 d2 h1 h2
      injection hm with hm; injection hm with e1 e2; subst e1 e2
      cases hd with
      | cons hdx hds =>
        cases hv with
        | cons hr hrs =>
          obtain ⟨t, y, hy, rfl⟩ := hdx
          obtain ⟨G, g1, g2⟩ := mvC_sound h h1 hy hr
          obtain ⟨H, g3, g4⟩ := ih hds h2 hrs (List.nodup_append.1 hn).2.1
          exact ⟨G ++ H, .cons g1 g3, g2.append g4 hn⟩
    · cases hm
theorem All2.frzd (h : SimC M src c ow f a w) (hsrc : ∀ b, M b → src b) {ids : List Nat} {vs : List Value} {ts : List T} {G : List Nat} {dp : Bool} (hids : ∀ r ∈ ids, ∃ n e k, ∃ (t : Ty) (l : List (den t)), ∃ deep, (r, n, O.row e k t l deep) ∈ f.ob) (ht : Taken M c ow w (okB src c ow f.ob) ids dp G) :
    (∀ b ∈ G, okB src c ow (f.frzAll ids).ob b) ∧ (dp = true → G.Nodup ∧ ∀ b ∈ G, M b ∧ Unf w b ∧ ∃ r, ow b = some r ∧ ∀ n x, (r, n, x) ∉ (f.frzAll ids).ob) := ht.frozen h hsrc (fun r hr => hr) hids
end

section
variable {X : Ctx} {E : List Con} {f : F} {a : Act} {w : World} {o : Oper} {R : Type} {K : F → Option R} {r : R}

theorem storeRow_goes (h : At X f a w) (hsf : f.subFree) {t : TypeId} {p x : Operand} {q k i off n e : Nat} {y : A} {inf : TypeInfo} {ty : Ty} {l : List (den ty)} {deep dp : Bool} {ids : List Nat} {z : den ty} (hop : o.op = .store t p x) (hdst : o.dst = none) (hp : f.getC p = some (.rp q k i off)) (hx : f.get x = some (.val y)) (hi : X.P.info? t = some inf) (hrow : f.obj q = some (.row e k ty l deep))
    (hmv : mvCs f y.cells = some (ids, dp)) (c1 : y.cells.length = inf.size) (c2 : off + y.cells.length ≤ k) (c3 : nodupB ids = true) (c4 : ids.contains q = false) (hil : i < l.length) (hz : ∃ ts, All2 (DT f) y.cells ts ∧ cells ty z = sp (cells ty l[i]) off ts)
    (hk : K ((f.frzAll ids).setOb q (.row e k ty (l.set i z) (deep && dp))) = some r) : Goes X E o a w f K r := by
  refine ⟨_, hk, (Ext.frzAll f ids).trans (Ext.setOb _ q _), fun Kp Q hK => ?_⟩
  obtain ⟨⟨c, ow, hs, hpin⟩, hb, hn⟩ := id h
  obtain ⟨g, b0, nn, cap, hrv, hpv⟩ := hs.getC hp
  obtain ⟨hsol, hnsub⟩ := mvCs_solid hmv
  obtain ⟨us, hvs, hall, hone⟩ := solid_cells hs.rvs (hs.get hx) hsol
  obtain ⟨ts, hts, hzz⟩ := hz
  have hnd := nodupB_sound c3
  obtain ⟨G, g1, g2⟩ := mvs_sound hs hts hmv hall hnd
  obtain ⟨t1, t2⟩ := g2.frozen hs X.hsrc (fun r hr => hr) (mvCs_ids hmv)
  obtain ⟨m, hmem⟩ := obj_mem hrow
  obtain ⟨m', hmem'⟩ := mem_frzAll_row c4 hmem
  have htl : ts.length = y.cells.length := hts.length.symm
  obtain ⟨w', ow', hrun, hsim, hbel, hoth⟩ := storeRow_sound (P := X.P) (hs.frzAll X.hsrc ids) (subFree_frzAll hsf ids) hmem' hil (by rw [htl]; exact c2) hzz g1 t1 t2 hrv
  unfold Oper.wp
  have hlen' : us.length = inf.size := by rw [hall.length]; exact c1
  have hrun' : (execOp a.eval o).run X.P w = .ok .skip w' := by
    simp [execOp, hop, Instr.storeAt, hpv, Instr.sureAddr, storeVar, run_sizeOf hi, hvs, hlen', hrun]
  rw [hrun']
  simp only [Oper.upon, hdst]
  exact hK _ _ ⟨⟨c, ow', hsim, hpin⟩, hb.trans hbel, hn⟩ (rec_store hop hdst hbel.size fun b _ hne => hoth b (hne g (by rw [hpv]; rfl)))

/-- A cell of a slice's element turns from one plain value to another. -/
theorem win_store {M : Nat → Prop} {c : Cx} {ow : Nat → Option Nat} {P : Program} {q k i off : Nat} {t : Ty} {l : List (den t)} {z : den t} (h : WinOk M c ow w q k t l) (hi : i < l.length) {τ : T} {u v0 : Value} (ho : off < k) (hold : (cells t l[i])[off]? = some (.lit v0)) (hz : cells t z = sp (cells t l[i]) off [τ]) (hu : Rep w u τ []) {g b0 n cap : Nat} (hrv : c.rv q = .slice (some ⟨g, b0, none⟩) n cap) :
    ∃ w', (storeCells ⟨g, b0 + (i * k + off), none⟩ [u]).run P w = .ok () w' ∧ WinOk M c ow w' q k t (l.set i z) ∧ (∀ b, b ≠ g → w'.heap[b]? = w.heap[b]?) ∧ w'.heap.size = w.heap.size ∧ w'.os = w.os ∧ w'.tape = w.tape ∧ w'.output = w.output ∧ M g ∧ ow g = some q := by
  obtain ⟨h0, h1, G, h2, h3, h4⟩ := h
  have hkk : ∀ y ∈ l.map (cells t), y.length = k := fun y hy => by obtain ⟨y', _, rfl⟩ := List.mem_map.1 hy; rw [cells_len, h1]
  rw [hrv] at h2
  simp only [leafT] at h2
  generalize hes : l.map (cells t) = es at h2
  cases h2 with
  | nil hc =>
    have : l = [] := by simpa using hes
    subst this
    simp at hi
  | @cons b off' n' cap' k' es xs G' hnn hp0 hk0 hk' hc hm hxl hcell hr =>
    subst hes
    have hkk' : k' = k := by
      obtain ⟨y, hy⟩ := List.exists_mem_of_length_pos (l := l.map (cells t)) (by simp; omega)
      rw [← hk' y hy, hkk y hy]
    subst hkk'
    obtain ⟨hMg, howg, cs, e, hh⟩ := h4 g (List.mem_cons_self ..)
    rw [List.length_map] at hnn
    subst hnn
    have hik : i * k' + k' ≤ l.length * k' := by rw [← Nat.succ_mul]; exact Nat.mul_le_mul_right _ hi
    have hlt : i * k' + off < xs.length := by omega
    have hcell' := hcell (i * k' + off) _ (List.getElem?_eq_getElem hlt)
    have hbound : b0 + (i * k' + off) < cs.size := by
      simp only [World.cell?, hh] at hcell'
      exact (Array.getElem?_eq_some_iff.1 hcell').1
    have hrun := run_storeCells_at (P := P) g (b0 + (i * k' + off)) e [u] 0 cs w hh (by simp; omega) (by intro x hx; rw [List.mem_singleton.1 hx]; exact rep_one hu)
    simp only [Nat.add_zero, List.length_singleton] at hrun
    have hother : ∀ b, b ≠ g → (w.setRow g (cs.toList.take (b0 + (i * k' + off)) ++ [u] ++ cs.toList.drop (b0 + (i * k' + off) + 1)).toArray).heap[b]? = w.heap[b]? := by
      intro b hne
      simp only [World.setRow, Array.getElem?_modify]
      rw [if_neg (Ne.symm hne)]
    have hgG : ∀ b ∈ G', b ≠ g := fun b hb e => (List.nodup_cons.1 h3).1 (e ▸ hb)
    have hnew := setRow_heap w g cs (cs.toList.take (b0 + (i * k' + off)) ++ [u] ++ cs.toList.drop (b0 + (i * k' + off) + 1)).toArray e (0, 0) hh
    refine ⟨_, hrun, ?_, hother, by simp [World.setRow], rfl, rfl, rfl, hMg, howg⟩
    have s1 : ((l.set i z).map (cells t)).flatten = sp (l.map (cells t)).flatten (i * k' + off) [τ] := by
      rw [leafT_map, flatten_set hkk (by simpa using hi) (by rw [cells_len, h1]), hz]
      refine sp_sp (flatten_get hkk (by simp [hi])).symm ?_ (by simp; omega)
      rw [flatten_length hkk, List.length_map]
      exact hik
    obtain ⟨F1, F2, F3, a1, a2, a3, a4⟩ := hr.parts (i * k' + off) 1
    have hmid : ((l.map (cells t)).flatten.drop (i * k' + off)).take 1 = [.lit v0] := by
      have hfg := flatten_get hkk (i := i) (e := cells t l[i]) (by simp [hi])
      have : ((l.map (cells t)).flatten)[i * k' + off]? = some (.lit v0) := by
        have h5 : (((l.map (cells t)).flatten.drop (i * k')).take k')[off]? = some (.lit v0) := by rw [hfg]; exact hold
        rw [List.getElem?_take, if_pos ho, List.getElem?_drop] at h5
        exact h5
      rw [List.take_one, List.head?_drop, this]
      rfl
    rw [hmid] at a2
    have hF2 : F2 = [] := by
      generalize hxs : (xs.drop (i * k' + off)).take 1 = ys at a2
      cases a2 with
      | cons p1 p2 => cases p1; cases p2; rfl
    subst hF2
    rw [List.nil_append] at a4
    have hrep : RepL w (sp xs (i * k' + off) [u]) (sp (l.map (cells t)).flatten (i * k' + off) [τ]) G' := by
      have := (a1.append (RepL.cons hu RepL.nil)).append a3
      rw [a4]
      simpa [sp] using this
    rw [← s1] at hrep
    refine ⟨h0, h1, g :: G', ?_, h3, fun b hb => ⟨(h4 b hb).1, (h4 b hb).2.1, ?_⟩⟩
    · rw [hrv]
      simp only [leafT]
      refine .cons (k := k') (by simp) hp0 hk0 (fun y hy => by obtain ⟨y', _, rfl⟩ := List.mem_map.1 hy; rw [cells_len, h1]) hc hm (by rw [sp_length (by simp; omega)]; exact hxl) (fun j x hx => ?_) (hrep.frame fun b hb => hother b (hgG b hb))
      simp only [World.cell?, hnew]
      have hjlt : j < xs.length := by have := (List.getElem?_eq_some_iff.1 hx).1; rw [sp_length (by simp; omega)] at this; exact this
      have hold' := hcell j _ (List.getElem?_eq_getElem hjlt)
      simp only [World.cell?, hh] at hold'
      have hcs : (cs.toList.take (b0 + (i * k' + off)) ++ [u] ++ cs.toList.drop (b0 + (i * k' + off) + 1)) = cs.toList.set (b0 + (i * k' + off)) u := by
        rw [List.set_eq_take_append_cons_drop, if_pos (by simpa using hbound)]
        simp
      have hsp : sp xs (i * k' + off) [u] = xs.set (i * k' + off) u := by
        unfold sp
        rw [List.set_eq_take_append_cons_drop, if_pos hlt]
        simp
      rw [hsp] at hx
      rw [hcs]
      rw [List.getElem?_set] at hx
      have hgoal : (cs.toList.set (b0 + (i * k' + off)) u)[b0 + j]? = some x := by
        rw [List.getElem?_set]
        split at hx
        · rename_i e1
          rw [if_pos (by omega)]
          rw [if_pos (by simpa using hbound)]
          exact hx
        · rename_i e1
          rw [if_neg (by omega)]
          rw [List.getElem?_eq_getElem hjlt] at hx
          rw [← hx]
          simpa using hold'
      simpa using hgoal
    · by_cases hbg : b = g
      · subst hbg; exact ⟨_, e, hnew⟩
      · exact (h4 b hb).2.2.keep (hother b hbg)
theorem flat_lit : ∀ {t : Ty} {x : den t} {v : Value} {G : List Nat}, Rep w v (leafT t x) G → flat t = true → G = [] ∧ ∃ u, leafT t x = .lit u
  | .int _, _, _, _, h, _ => by cases h; exact ⟨rfl, _, rfl⟩
  | .bool, _, _, _, h, _ => by cases h; exact ⟨rfl, _, rfl⟩
  | .str, _, _, _, h, _ => by cases h; exact ⟨rfl, _, rfl⟩
  | .sl t, _, _, _, h, hn => by cases hn
  | .pair _ _, _, _, _, h, _ => by cases h
theorem split_get : ∀ (t : Ty) (x : den t) {i : Nat} {t' : Ty} {y : den t'}, (split t x)[i]? = some (.v t' y) → (cells t x)[i]? = some (leafT t' y) ∧ ∀ a b, t' ≠ .pair a b
  | .int k, x, i, t', y, h => by cases i with | zero => simp [split] at h; obtain ⟨rfl, h⟩ := h; subst h; exact ⟨rfl, by simp⟩ | succ i => simp [split] at h
  | .bool, x, i, t', y, h => by cases i with | zero => simp [split] at h; obtain ⟨rfl, h⟩ := h; subst h; exact ⟨rfl, by simp⟩ | succ i => simp [split] at h
  | .str, x, i, t', y, h => by cases i with | zero => simp [split] at h; obtain ⟨rfl, h⟩ := h; subst h; exact ⟨rfl, by simp⟩ | succ i => simp [split] at h
  | .sl t, x, i, t', y, h => by cases i with | zero => simp [split] at h; obtain ⟨rfl, h⟩ := h; subst h; exact ⟨rfl, by simp⟩ | succ i => simp [split] at h
  | .pair a b, x, i, t', y, h => by
    simp only [split, cells] at h ⊢
    rw [List.getElem?_append] at h ⊢
    rw [split_len] at h
    rw [cells_len]
    split at h
    · rename_i hlt; rw [if_pos hlt]; exact split_get a x.1 h
    · rename_i hlt; rw [if_neg hlt]; exact split_get b x.2 h
theorem storeWin_goes (h : At X f a w) (hsf : f.subFree) {t : TypeId} {p x : Operand} {q k i off : Nat} {y : A} {inf : TypeInfo} {ty tz ty' : Ty} {l : List (den ty)} {el el' : den ty} {z : den tz} {z' : den ty'} (hop : o.op = .store t p x) (hdst : o.dst = none) (hp : f.getC p = some (.rp q k i off)) (hx : f.get x = some (.val y)) (hi : X.P.info? t = some inf) (hrow : f.obj q = some (.win k ty l))
    (c1 : y.cells.length = inf.size) (c2 : inf.size = 1) (c3 : off < k) (hel : l[i]? = some el) (hy : y.cells = [.v tz z]) (hold : (split ty el)[off]? = some (.v ty' z')) (hf1 : flat tz = true) (hf2 : flat ty' = true) (hd : f.dataL ty (sp (split ty el) off [.v tz z]) = some (el', []))
    (hk : K (f.setOb q (.win k ty (l.set i el'))) = some r) : Goes X E o a w f K r := by
  refine ⟨_, hk, Ext.setOb f q _, fun Kp Q hK => ?_⟩
  obtain ⟨⟨c, ow, hs, hpin⟩, hb, hn⟩ := id h
  obtain ⟨g, b0, nn, cap, hrv, hpv⟩ := hs.getC hp
  obtain ⟨m, hmem⟩ := obj_mem hrow
  have hwin : WinOk X.M c ow w q k ty l := hs.ob _ _ _ hmem
  have hsol : y.cells.all C.solid = true := by rw [hy]; rfl
  obtain ⟨us, hvs, hall, hone⟩ := solid_cells hs.rvs (hs.get hx) hsol
  rw [hy] at hall
  have hil : i < l.length := (List.getElem?_eq_some_iff.1 hel).1
  have hele : l[i] = el := (List.getElem?_eq_some_iff.1 hel).2
  obtain ⟨ts, hts, hzz⟩ := dataL_sp (f := f) (by simp; rw [hwin.2.1]; exact c3) hd
  cases hts with
  | @cons _ τ _ _ hτ hnil =>
    cases hnil
    have hτe := DT_v hτ
    subst hτe
    generalize hus : us = us' at hall
    cases hall with
    | @cons u _ _ _ hru hnil =>
      cases hnil
      obtain ⟨G, hrep, _⟩ := hru
      obtain ⟨rfl, _⟩ := flat_lit hrep hf1
      obtain ⟨hcell, hnp⟩ := split_get ty el hold
      have hv0 : ∃ v0, leafT ty' z' = .lit v0 := by
        cases ty' with
        | int k => exact ⟨_, rfl⟩
        | bool => exact ⟨_, rfl⟩
        | str => exact ⟨_, rfl⟩
        | sl t => cases hf2
        | pair a b => exact absurd rfl (hnp a b)
      obtain ⟨v0, hv0⟩ := hv0
      rw [hv0, ← hele] at hcell
      rw [← hele] at hzz
      obtain ⟨w', hrun, hwin', hoth, hsz, e1, e2, e3, hMg, howg⟩ := win_store (P := X.P) hwin hil c3 hcell hzz hrep hrv
      have h1 := hs.turn hsf (ow' := ow) (y := .win k ty (l.set i el')) (w' := w') hmem (by omega) (fun b hlt hnb => hoth b fun e => hnb (e ▸ howg)) (fun b _ hy => hy) (fun b o _ _ _ => Iff.rfl) (fun ok' _ _ => hwin')
      unfold Oper.wp
      have hrun' : (execOp a.eval o).run X.P w = .ok .skip w' := by
        simp [execOp, hop, Instr.storeAt, hpv, Instr.sureAddr, storeVar, run_sizeOf hi, hvs, hus, c2, hrun]
      rw [hrun']
      simp only [Oper.upon, hdst]
      exact hK _ _ ⟨⟨c, ow, h1, hpin⟩, hb.trans ⟨e1, e2, e3, by omega, fun b hlt hnm => hoth b fun e => hnm (e ▸ hMg)⟩, hn⟩ (rec_store hop hdst (by omega) fun b _ hne => hoth b (hne g (by rw [hpv]; rfl)))
end
end Go.V
set_option linter.unusedVariables false
set_option linter.unusedSectionVars false
namespace Go.V
open Go.Ab Go.RowKit

section
variable {X : Ctx} {E : List Con} {f : F} {a : Act} {w : World} {o : Oper} {R : Type} {K : F → Option R} {r : R}

theorem z_rep {v : Value} {τ : T} (h : DT f (zC v) τ) : Rep w v τ [] := by
  unfold zC at h
  split at h
  · split at h
    · rename_i hp; rw [DT_v h]; exact .lit hp
    · obtain ⟨t, y, hy, _⟩ := h; cases hy
  · rw [DT_v h]; exact .lit rfl
  · split at h
    · rename_i hp; rw [DT_v h]; exact .lit hp
    · obtain ⟨t, y, hy, _⟩ := h; cases hy
  · obtain ⟨t, y, hy, rfl⟩ := h
    simp only [F.data] at hy
    split at hy
    · injection hy with hy; subst hy; exact .nil (Nat.zero_le _)
    · cases hy
  · obtain ⟨t, y, hy, _⟩ := h; cases hy
theorem zs_rep : ∀ {vs : List Value} {ts : List T}, All2 (DT f) (vs.map zC) ts → RepL w vs ts []
  | [], _, h => by cases h; exact .nil
  | v :: vs, _, h => by
    rw [List.map_cons] at h
    cases h with
    | cons h hs => exact .cons (z_rep h) (zs_rep hs)
theorem newRow_at {c : Cx} {ow' : Nat → Option Nat} {w' : World} {d e k : Nat} {t : Ty} {l : List (den t)} {deep : Bool} {v : Value} (h : SimC X.M X.src (c.setRv d v) ow' (f.add d (.row e k t l deep)) a w') (hd : d < a.tmps.size) : SimC X.M X.src (c.setRv d v) ow' (f.newOb d (.row e k t l deep) (.row d)) (a.put (some d) v) w' :=
  h.put hd (by simp [RelS, RelA, RelC, Cx.setRv])
theorem map_replicate' {t : Ty} (n : Nat) (z : den t) : (List.replicate n z).map (cells t) = List.replicate n (cells t z) := by simp

theorem make_goes (h : At X f a w) (hsf : f.subFree) {d : Nat} (hdst : o.dst = some d) (hd : inFrame X.n o.dst = true) {t e : TypeId} {x y : Operand} {k1 k2 : IntKind} {n m : Int} {i : TypeInfo} {z : Value} {ty : Ty} {z0 : den ty} (hop : o.op = .makeSlice t x y) (ht : X.P.underlying t = some (.slice e)) (hx : f.getC x = some (.v (.int k1) n)) (hy : f.getC y = some (.v (.int k2) m))
    (hi : X.P.info? e = some i) (hz : i.zero = some z) (hz0 : f.dataL ty (z.cells.toList.map zC) = some (z0, [])) (c1 : i.size = z.cells.size) (c2 : 0 < i.size) (hp : pinned d = false) (hok : mkOk i.bytes n m = true) (hk : K (f.newOb d (.row e i.size ty (List.replicate n.toNat z0) true) (.row d)) = some r) : Goes X E o a w f K r := by
  refine ⟨_, hk, Ext.newOb f d _ _, fun Kp Q hK => ?_⟩
  obtain ⟨⟨c, ow, hs, hpin⟩, hb, hn⟩ := id h
  have hlt : d < a.tmps.size := by rw [hn]; rw [hdst] at hd; exact inFrame_lt hd
  simp only [mkOk, Bool.and_eq_true, decide_eq_true_eq] at hok
  obtain ⟨p1, p2, p3, p4⟩ := hok
  subst p1
  obtain ⟨ex, _⟩ := RelC_int (hs.getC hx)
  obtain ⟨ey, _⟩ := RelC_int (hs.getC hy)
  have hrun := run_make (P := X.P) w t e i z ht hi hz k1 k2 m m p2 (Int.le_refl _) p3 (by omega)
  have hzp : 0 < z.cells.size := by omega
  have hcells : madeCells z.cells (m.toNat * i.size) = (List.replicate m.toNat z.cells.toList).flatten.toArray := by
    rw [c1]
    apply Array.toList_inj.1
    rw [madeCells_flatten z.cells hzp]
  have hzz : RepL w z.cells.toList (cells ty z0) [] := zs_rep (dataL_all2 hz0)
  have hlen0 : tyLen ty = i.size := by rw [← cells_len ty z0, ← hzz.length, c1]; simp
  have hflat : ((List.replicate m.toNat z0).map (cells ty)).flatten = (List.replicate m.toNat (cells ty z0)).flatten := by rw [map_replicate']
  have hrepl : RepL w (List.replicate m.toNat z.cells.toList).flatten ((List.replicate m.toNat z0).map (cells ty)).flatten [] := by rw [hflat]; exact RepL_replicate hzz m.toNat
  have hln : (List.replicate m.toNat z.cells.toList).flatten.length = m.toNat * i.size := by simp [List.length_flatten, c1]
  have hrun' : (execOp a.eval o).run X.P w = .ok (.value (.slice (some ⟨w.heap.size, 0, none⟩) m.toNat m.toNat)) (w.alloc (.cells (List.replicate m.toNat z.cells.toList).flatten.toArray e (0, 0))) := by
    simp only [execOp, hop, ex, ey]
    rw [hcells] at hrun
    simp [hrun]
  have hblk : ∀ b, b < w.heap.size → (w.alloc (.cells (List.replicate m.toNat z.cells.toList).flatten.toArray e (0, 0))).heap[b]? = w.heap[b]? := fun b hb => Below.heap_alloc _ _ _ hb
  have hown := ownsRow_new (B := 0) (w := w) (e := e) (k := i.size) (n := m.toNat) (List.replicate m.toNat z.cells.toList).flatten (Nat.zero_le _) (by simp [maxLen]; omega) hln
  obtain ⟨ow', h1⟩ := hs.putRow hsf (d := d) (was := none) (by simp) (deep := true) (l := List.replicate m.toNat z0) (t := ty) (v := .slice (some ⟨w.heap.size, 0, none⟩) m.toNat m.toNat) (by simp) (fun b hb _ => hblk b hb) (.inr (.inr rfl)) (fun b hb => by simp [Value.ownBlock] at hb; subst hb; exact h.hM) (by simpa using hown) c2 hlen0 (hrepl.frame (by simp)) (by simp) (fun _ => by simp)
  unfold Oper.wp
  rw [hrun']
  simp only [Oper.upon, hdst]
  exact hK _ _ ⟨⟨_, ow', newRow_at h1 hlt, hpin.rv hp _⟩, hb.alloc _, by rw [size_put]; exact hn⟩ (rec_new hdst (fun b hb' => hblk b hb') (by simp) (by rw [hop]; rfl) (fun _ b hb0 => by injection hb0 with hb0; exact Nat.le_of_eq hb0))

theorem litEls_sound {M src : Nat → Prop} {c : Cx} {ow : Nat → Option Nat} (h : SimC M src c ow f a w) {k : Nat} {t : Ty} : ∀ {ps : List (Nat × Operand)} {es : List (den t)} {ids : List Nat} {dp : Bool}, litEls f k t ps = some (es, ids, dp) → ids.Nodup →
    ∃ (vss : List (List Value)) (G : List Nat), ps.map (fun p => (a.eval p.2).cells) = vss.map List.toArray ∧ (∀ x ∈ vss, x.length = k) ∧ es.length = ps.length ∧ RepL w vss.flatten (es.map (cells t)).flatten G ∧ Taken M c ow w (okB src c ow f.ob) ids dp G ∧
      ∀ r ∈ ids, ∃ n e k, ∃ (t : Ty) (l : List (den t)), ∃ deep, (r, n, O.row e k t l deep) ∈ f.ob := by
  intro ps
  induction ps with
  | nil =>
    intro es ids dp hl _
    injection hl with hl; injection hl with e1 hl; injection hl with e2 e3; subst e1 e2 e3
    exact ⟨[], [], rfl, by simp, rfl, .nil, ⟨by simp, fun _ => by simp⟩, by simp⟩
  | cons p ps ih =>
    intro es ids dp hl hn
    obtain ⟨i, x⟩ := p
    unfold litEls at hl
    split at hl
    · rename_i y es' i2 d2 hg hrest
      split at hl
      · rename_i hk
        split at hl
        · rename_i e i1 d1 hdat hmv
          injection hl with hl; injection hl with e1 hl; injection hl with e2 e3; subst e1 e2 e3
          obtain ⟨vss, G, q1, q3, q4, q5, q6, q7⟩ := ih hrest (List.nodup_append.1 hn).2.1
          obtain ⟨hsol, _⟩ := mvCs_solid hmv
          obtain ⟨vs, hvs, hall, _⟩ := solid_cells h.rvs (h.get hg) hsol
          obtain ⟨H, g1, g2⟩ := mvs_sound h (dataL_all2 hdat) hmv hall (List.nodup_append.1 hn).1
          refine ⟨vs :: vss, H ++ G, by simp [q1, hvs], ?_, by simp [q4], ?_, g2.append q6 hn, fun r hr => (List.mem_append.1 hr).elim (mvCs_ids hmv r) (q7 r)⟩
          · intro z hz
            rcases List.mem_cons.1 hz with rfl | hz
            · rw [hall.length]; exact hk
            · exact q3 z hz
          · simpa using g1.append q5
        · cases hl
      · cases hl
    · cases hl

theorem lit_goes (h : At X f a w) (hsf : f.subFree) {d : Nat} (hdst : o.dst = some d) (hd : inFrame X.n o.dst = true) {t e : TypeId} {len : Nat} {ps : Array (Nat × Operand)} {i : TypeInfo} {ty : Ty} {es : List (den ty)} {ids : List Nat} {dp : Bool} (hop : o.op = .buildSlice t len ps) (ht : X.P.underlying t = some (.slice e)) (hi : X.P.info? e = some i)
    (hl : litEls f i.size ty ps.toList = some (es, ids, dp)) (c1 : 0 < i.size) (c0 : evSlice.tyLen ty = i.size) (c2 : ps.toList.map (·.1) = List.range len) (c3 : len * i.size ≤ 1000) (c4 : i.zero.isSome = true) (c5 : nodupB ids = true) (hp : pinned d = false) (hk : K ((f.frzAll ids).newOb d (.row e i.size ty es dp) (.row d)) = some r) : Goes X E o a w f K r := by
  refine ⟨_, hk, (Ext.frzAll f ids).trans (Ext.newOb _ d _ _), fun Kp Q hK => ?_⟩
  obtain ⟨⟨c, ow, hs, hpin⟩, hb, hn⟩ := id h
  have hlt : d < a.tmps.size := by rw [hn]; rw [hdst] at hd; exact inFrame_lt hd
  have hnd := nodupB_sound c5
  obtain ⟨vss, G, q1, q3, q4, q5, q6, q7⟩ := litEls_sound hs hl hnd
  have hplen : ps.toList.length = len := by have := congrArg List.length c2; simpa using this
  obtain ⟨z, hz⟩ := Option.isSome_iff_exists.1 c4
  obtain ⟨t1, t2⟩ := q6.frozen hs X.hsrc (fun r hr => hr) q7
  have hes : es.length = len := by rw [q4, hplen]
  have hkk : ∀ y ∈ es.map (cells ty), y.length = i.size := fun y hy => by obtain ⟨y', _, rfl⟩ := List.mem_map.1 hy; rw [cells_len, ← tyLen_eq, c0]
  have hlenv : vss.flatten.length = len * i.size := by rw [q5.length, flatten_length hkk, List.length_map, hes]
  have hlenm : len ≤ maxLen := by
    have : len ≤ len * i.size := Nat.le_mul_of_pos_right _ c1
    simp [maxLen]; omega
  have hblk : ∀ b, b < w.heap.size → (w.alloc (.cells vss.flatten.toArray e (0, 0))).heap[b]? = w.heap[b]? := fun b hb => Below.heap_alloc _ _ _ hb
  have hown := ownsRow_new (B := 0) (w := w) (e := e) (k := i.size) (n := len) vss.flatten (Nat.zero_le _) hlenm hlenv
  obtain ⟨ow', h1⟩ := (hs.frzAll X.hsrc ids).putRow (subFree_frzAll hsf ids) (d := d) (was := none) (by simp) (deep := dp) (l := es) (t := ty) (v := .slice (some ⟨w.heap.size, 0, none⟩) len len) (by simp) (fun b hb _ => hblk b hb) (.inr (.inr rfl)) (fun b hb => by simp [Value.ownBlock] at hb; subst hb; exact h.hM) (by rw [hes]; exact hown) c1 (by rw [← tyLen_eq, c0])
    (q5.frame fun b hb => hblk b (q5.lt b hb)) (fun b hb => ⟨q5.lt b hb, t1 b hb⟩) (fun hd' => by
      obtain ⟨n1, n2⟩ := t2 hd'
      refine ⟨n1, fun b hb => ?_⟩
      obtain ⟨m1, m2, r', m3, m4⟩ := n2 b hb
      exact ⟨m1, m2.keep (hblk b (q5.lt b hb)), r', m3, .inr m4⟩)
  have hvals : (ps.toList.map fun p => (p.1, a.eval p.2)) = (List.range' 0 (ps.toList.map fun p => a.eval p.2).length).zip (ps.toList.map fun p => a.eval p.2) := by
    rw [List.length_map, hplen, ← List.range_eq_range', ← c2]
    rw [List.zip_map']
  have hfill := fill_seq i.size (ps.toList.map fun p => a.eval p.2) 0 ((Array.range (len * i.size)).map fun x => (if len * i.size = 0 then #[] else z.cells)[x % (if len * i.size = 0 then #[] else z.cells).size]!) (by
    intro v hv
    have h1 : v.cells ∈ (ps.toList.map fun p => a.eval p.2).map Value.cells := List.mem_map.2 ⟨v, hv, rfl⟩
    rw [List.map_map] at h1
    have h2 : v.cells ∈ vss.map List.toArray := by rw [← q1]; exact h1
    obtain ⟨us, hus, he⟩ := List.mem_map.1 h2
    rw [← he]
    simpa using q3 us hus) (by simp [hplen])
  rw [← hvals] at hfill
  have hflat : ((ps.toList.map fun p => a.eval p.2).map fun v => v.cells.toList).flatten = vss.flatten := by
    congr 1
    have : (ps.toList.map fun p => a.eval p.2).map (fun v => v.cells.toList) = (ps.toList.map fun p => (a.eval p.2).cells).map Array.toList := by simp [List.map_map, Function.comp_def]
    rw [this, q1, List.map_map]
    exact List.map_id vss
  rw [hflat] at hfill
  have hdrop : ((Array.range (len * i.size)).map fun x => (if len * i.size = 0 then #[] else z.cells)[x % (if len * i.size = 0 then #[] else z.cells).size]!).toList.drop ((0 + (ps.toList.map fun p => a.eval p.2).length) * i.size) = [] := by
    apply List.drop_eq_nil_of_le
    simp [hplen]
  rw [hdrop] at hfill
  simp only [Nat.zero_mul, List.take_zero, List.nil_append, List.append_nil] at hfill
  unfold Oper.wp
  have hrun : (execOp a.eval o).run X.P w = .ok (.value (.slice (some ⟨w.heap.size, 0, none⟩) len len)) (w.alloc (.cells vss.flatten.toArray e (0, 0))) := by
    simp only [execOp, hop, Instr.buildSlice, Sem.run_bind, run_underlying ht, Result.andThen_ok, run_sizeOf hi]
    by_cases h0 : len * i.size = 0
    · have hps : ps.toList = [] := List.length_eq_zero_iff.1 (by rcases Nat.mul_eq_zero.1 h0 with h | h <;> omega)
      have hvs : vss = [] := by
        rw [hps] at q1
        simpa using q1.symm
      have hl0 : len = 0 := by rw [hps] at hplen; simpa using hplen.symm
      subst hvs
      simp [hl0, hps, Instr.fill, newRow, Array.range_zero']
    · simp only [h0, if_false] at hfill ⊢
      simp only [Array.toList_map, zeroValue, typeInfo]
      have h24 : ¬ 16777216 < len * i.size := by omega
      simp [hi, hz, h24, hfill, newRow]
  rw [hrun]
  simp only [Oper.upon, hdst]
  exact hK _ _ ⟨⟨_, ow', newRow_at h1 hlt, hpin.rv hp _⟩, hb.alloc _, by rw [size_put]; exact hn⟩ (rec_new hdst (fun b hb' => hblk b hb') (by simp) (by rw [hop]; rfl) (fun _ b hb0 => by injection hb0 with hb0; exact Nat.le_of_eq hb0))

/-! ### append -/
theorem flat_cells : ∀ {t : Ty}, flat t = true → ∀ x : den t, (cells t x).any T.isSl = false
  | .int _, _, _ => rfl
  | .bool, _, _ => rfl
  | .str, _, _ => rfl
  | .sl _, h, _ => by cases h
  | .pair a b, h, x => by
    simp only [flat, Bool.and_eq_true] at h
    simp only [cells, List.any_append, Bool.or_eq_false_iff]
    exact ⟨flat_cells h.1 x.1, flat_cells h.2 x.2⟩
theorem apSrc_sound {M src : Nat → Prop} {c : Cx} {ow : Nat → Option Nat} (h : SimC M src c ow f a w) {k : Nat} {t : Ty} {x : C} {u : Value} {es : List (den t)} {ids : List Nat} {dp : Bool} (hs : apSrc f k t x = some (es, ids, dp)) (hv : RelC c ow w (okB src c ow f.ob) u x) :
    ∃ G, Rep w u (leafT (.sl t) es) G ∧ (∀ r ∈ ids, ∃ n e k, ∃ (t : Ty) (l : List (den t)), ∃ deep, (r, n, O.row e k t l deep) ∈ f.ob) ∧ ids.Nodup ∧ (Taken M c ow w (okB src c ow f.ob) ids dp G ∨ (flat t = true ∧ Taken M c ow w (okB src c ow f.ob) ids false G)) := by
  unfold apSrc at hs
  split at hs
  · injection hs with hs; injection hs with e1 hs; injection hs with e2 e3; subst e1 e2 e3
    have : u = .slice none 0 0 := hv
    subst this
    exact ⟨[], .nil (Nat.zero_le _), by simp, List.nodup_nil, .inl ⟨by simp, fun _ => by simp⟩⟩
  · rename_i t' y
    obtain ⟨l, hl, he⟩ := Option.map_eq_some_iff.1 hs
    injection he with e1 he; injection he with e2 e3; subst e1 e2 e3
    obtain ⟨rfl, rfl⟩ := castTy_some hl
    obtain ⟨G, hr, hG⟩ := hv
    refine ⟨G, hr, by simp, List.nodup_nil, ?_⟩
    cases hf : flat t with
    | true => exact .inr ⟨rfl, fun b hb => .inl (hG b hb), fun h => by cases h⟩
    | false => exact .inl ⟨fun b hb => .inl (hG b hb), fun h => by cases h⟩
  · rename_i q
    split at hs
    · rename_i e k' t' l deep hrow
      split at hs
      · obtain ⟨l', hl, he⟩ := Option.map_eq_some_iff.1 hs
        injection he with e1 he; injection he with e2 e3; subst e1 e2 e3
        obtain ⟨e0, rfl⟩ := castTy_some hl
        injection e0 with e0
        subst e0
        have hv : u = c.rv q := hv
        subst hv
        obtain ⟨G, g1, g2⟩ := row_taken h hrow
        obtain ⟨n, hm⟩ := obj_mem hrow
        exact ⟨G, g1, fun r' hr' => by rw [List.mem_singleton.1 hr']; exact ⟨n, e, k', _, _, deep, hm⟩, by simp, .inl g2⟩
      · cases hs
    · cases hs
  · cases hs
theorem taken_part {M src : Nat → Prop} {c : Cx} {ow : Nat → Option Nat} (h : SimC M src c ow f a w) (hsrc : ∀ b, M b → src b) {ids : List Nat} {dp : Bool} {G H : List Nat} {t : Ty} {es : List (den t)} {news : List Value} (hids : ∀ r ∈ ids, ∃ n e k, ∃ (t : Ty) (l : List (den t)), ∃ deep, (r, n, O.row e k t l deep) ∈ f.ob)
    (ht : Taken M c ow w (okB src c ow f.ob) ids dp G ∨ (flat t = true ∧ Taken M c ow w (okB src c ow f.ob) ids false G)) (hr : RepL w news (es.map (cells t)).flatten H) (hsub : ∀ b ∈ H, b ∈ G) (hnd : G.Nodup → H.Nodup) :
    (∀ b ∈ H, okB src c ow (f.frzAll ids).ob b) ∧ (dp = true → H.Nodup ∧ ∀ b ∈ H, M b ∧ Unf w b ∧ ∃ r, ow b = some r ∧ ∀ n x, (r, n, x) ∉ (f.frzAll ids).ob) := by
  rcases ht with ht | ⟨hno, ht⟩
  · obtain ⟨t1, t2⟩ := ht.frozen h hsrc (fun r hr => hr) hids
    refine ⟨fun b hb => t1 b (hsub b hb), fun hd => ?_⟩
    obtain ⟨n1, n2⟩ := t2 hd
    exact ⟨hnd n1, fun b hb => n2 b (hsub b hb)⟩
  · rw [hr.noSl (RepL_noSl fun x hx => by obtain ⟨y, _, rfl⟩ := List.mem_map.1 hx; exact flat_cells hno y)]
    exact ⟨by simp, fun _ => by simp⟩

theorem blk_own {w : World} {B e k : Nat} {v : Value} {n : Nat} {xs : List Value} (h : w.ownsRow B e k v n xs) {b : Nat} (hb : blkOf v = some b) : v.ownBlock = some b := by
  rcases h.2 with ⟨h, _⟩ | ⟨g, cap, cur, h, _⟩
  · rw [h] at hb; cases hb
  · rw [h] at hb ⊢; exact hb
theorem app_goes (h : At X f a w) (hsf : f.subFree) {d : Nat} (hdst : o.dst = some d) (hd : inFrame X.n o.dst = true) {t : TypeId} {s x : Operand} (hop : o.op = .call { callee := .builtin .append, args := #[s, x], argTypes := #[t, t] }) (hv : evApp X.P f d t s x K = some r) : Goes X E o a w f K r := by
  unfold evApp at hv
  split at hv
  · rename_i e ht
    split at hv
    · rename_i i ty hi hty
      split at hv
      · rename_i z hz
        split at hv
        · rename_i hcond
          obtain ⟨c1, c2, c3, hp⟩ := hcond
          rw [tyLen_eq] at c3
          split at hv
          · rename_i cs cx hs' hx
            split at hv
            · rename_i es2 ids dp hsr
              obtain ⟨⟨c, ow, hs, hpin⟩, hb, hn⟩ := id h
              have hlt : d < a.tmps.size := by rw [hn]; rw [hdst] at hd; exact inFrame_lt hd
              have hexec : ∀ (v u v' : Value) (w' : World), a.eval s = v → a.eval x = u → (∀ ty, (Builtin.append_ #[t, t] ty #[v, u]).run X.P w = .ok v' w') → (execOp a.eval o).run X.P w = .ok (.value v') w' := by
                intro v u v' w' hv1 hu1 hr
                simp [execOp, hop, resolve, invoke, builtin, hv1, hu1, hr]
              obtain ⟨F0, f1, f3, f4, f5⟩ := apSrc_sound hs hsr (hs.getC hx)
              have hk2 : ∀ y ∈ es2.map (cells ty), y.length = i.size := fun y hy => by obtain ⟨y', _, rfl⟩ := List.mem_map.1 hy; rw [cells_len, c3]
              split at hv
              · rcases cond_some hv with ⟨p1, hv⟩ | ⟨_, hv⟩
                · have p1 : (0 + es2.length) * (i.bytes + 1) ≤ 140737488355328 := by simpa [apOk] using p1
                  refine ⟨_, hv, (Ext.frzAll f ids).trans (Ext.newOb _ d _ _), fun Kp Q hK => ?_⟩
                  have hvs : a.eval s = .slice none 0 0 := hs.getC hs'
                  have hown : w.ownsRow 0 e i.size (.slice none 0 0) 0 [] := ⟨by simp, .inl ⟨rfl, rfl⟩⟩
                  obtain ⟨v', w', news, G, g1, g2, g3, g4, g5, g6, g7⟩ := run_app (P := X.P) (ty := 0) (es := es2.map (cells ty)) ht hi hz c1 c2 hown f1 hk2 (by rw [List.length_map]; exact p1) (Nat.zero_le _)
                  have hsame : ∀ ty, (Builtin.append_ #[t, t] ty #[.slice none 0 0, a.eval x]).run X.P w = .ok v' w' := fun ty => g1
                  have hG := taken_part hs X.hsrc f3 f5 g5 g6 g7
                  have hbk : ∀ b, b < w.heap.size → w'.heap[b]? = w.heap[b]? := fun b hlt => g3.block b hlt (by simp [Value.ownBlock])
                  rw [Nat.zero_add, List.nil_append, List.length_map] at g2
                  obtain ⟨ow', h1⟩ := (hs.frzAll X.hsrc ids).putRow (subFree_frzAll hsf ids) (d := d) (was := none) (by simp) (deep := dp) (l := es2) (t := ty) (v := v') g3.size (fun b hb _ => hbk b hb) (by
                      rcases g4 with g4 | g4
                      · exact .inl g4
                      · exact .inr (.inr g4)) (fun b hb => by
                      rcases g4 with g4 | g4
                      · rw [g4] at hb; cases hb
                      · rw [g4] at hb; injection hb with hb; subst hb; exact h.hM) g2 c2 c3
                    (g5.frame fun b hb => hbk b (g5.lt b hb)) (fun b hb => ⟨g5.lt b hb, hG.1 b hb⟩) (fun hdp => by
                      obtain ⟨n1, n2⟩ := hG.2 hdp
                      refine ⟨n1, fun b hb => ?_⟩
                      obtain ⟨m1, m2, r', m3, m4⟩ := n2 b hb
                      exact ⟨m1, m2.keep (hbk b (g5.lt b hb)), r', m3, .inr m4⟩)
                  unfold Oper.wp
                  rw [hexec _ _ v' w' hvs rfl hsame]
                  simp only [Oper.upon, hdst]
                  exact hK _ _ ⟨⟨_, ow', newRow_at h1 hlt, hpin.rv hp _⟩, hb.grown g3 (by simp [Value.ownBlock]), by rw [size_put]; exact hn⟩ ⟨(fun hw => by rw [hop] at hw; simp [writes] at hw), ⟨v', by rw [hdst], (fun ha => by rw [hop] at ha; cases ha), fun _ _ _ b hb0 => .inl (by
                    have hbo := blk_own g2 hb0
                    rcases g4 with g4 | g4
                    · rw [g4] at hbo; cases hbo
                    · rw [g4] at hbo; injection hbo with hbo; omega)⟩, fun _ _ b hlt _ => hbk b hlt, g3.size⟩
                · cases hv
              · rename_i q
                split at hv
                · rename_i e1 k1 t1 l1 deep1 hrow
                  split at hv
                  · rename_i es1 hcast
                    obtain ⟨e0, he0⟩ := castTy_some hcast
                    injection e0 with e0
                    subst e0
                    have he0 : l1 = es1 := he0
                    subst he0
                    split at hv
                    · rename_i hc2
                      obtain ⟨rfl, rfl, hrd, hrids, hpq⟩ := hc2
                      rcases cond_some hv with ⟨p1, hv⟩ | ⟨_, hv⟩
                      · have p1 : (l1.length + es2.length) * (i.bytes + 1) ≤ 140737488355328 := by simpa [apOk] using p1
                        refine ⟨_, hv, ((Ext.frzAll f ids).trans (Ext.add _ q _)).trans (Ext.put _ _ _), fun Kp Q hK => ?_⟩
                        have hvs : a.eval s = c.rv q := hs.getC hs'
                        obtain ⟨m, hmem⟩ := obj_mem hrow
                        obtain ⟨m1, hm1⟩ := mem_frzAll_row hrids hmem
                        have h0 := hs.frzAll X.hsrc ids
                        obtain ⟨r0, r1, r2, xs, F1, r3, r4, r5, r6⟩ := h0.ob _ _ _ hm1
                        obtain ⟨v', w', news, G, g1, g2, g3, g4, g5, g6, g7⟩ := run_app (P := X.P) (ty := 0) (es := es2.map (cells t1)) ht hi hz c1 c2 r3 f1 hk2 (by rw [List.length_map]; exact p1) (Nat.zero_le _)
                        have hsame : ∀ ty, (Builtin.append_ #[t, t] ty #[c.rv q, a.eval x]).run X.P w = .ok v' w' := fun ty => g1
                        have hG := taken_part hs X.hsrc f3 f5 g5 g6 g7
                        have hnl : ∀ b, okB X.src c ow (f.frzAll ids).ob b → some b ≠ (c.rv q).ownBlock := fun b hok e => hok.2 ⟨q, m1, _, hm1, e.symm⟩
                        have hbk : ∀ b, b < w.heap.size → okB X.src c ow (f.frzAll ids).ob b → w'.heap[b]? = w.heap[b]? := fun b hlt hok => g3.block b hlt (hnl b hok)
                        have hrep : RepL w' (xs ++ news) ((l1 ++ es2).map (cells t1)).flatten (F1 ++ G) := by
                          rw [List.map_append, List.flatten_append]
                          exact (r4.frame fun b hb => hbk b (r4.lt b hb) (r5 b hb)).append (g5.frame fun b hb => hbk b (g5.lt b hb) (hG.1 b hb))
                        rw [List.length_map] at g2
                        obtain ⟨ow', h1⟩ := h0.putRow (subFree_frzAll hsf ids) (d := q) (was := (c.rv q).ownBlock) (fun b hb => ⟨(r2 b hb).2, ⟨q, m1, _, hm1, hb⟩⟩) (deep := deep1 && dp) (l := l1 ++ es2) (t := t1) (v := v') g3.size (fun b hlt hne => g3.block b hlt hne) (.inr g4) (fun b hb => by
                            rcases g4 with g4 | g4
                            · rw [g4] at hb; exact (r2 b hb).1
                            · rw [g4] at hb; injection hb with hb; subst hb; exact h.hM) (by rw [List.length_append]; exact g2) c2 c3 hrep (fun b hb => by
                            rcases List.mem_append.1 hb with hb | hb
                            · exact ⟨r4.lt b hb, r5 b hb⟩
                            · exact ⟨g5.lt b hb, hG.1 b hb⟩)
                          (fun hdp => by
                            simp only [Bool.and_eq_true] at hdp
                            obtain ⟨n1, n2⟩ := r6 hdp.1
                            obtain ⟨n3, n4⟩ := hG.2 hdp.2
                            refine ⟨List.nodup_append.2 ⟨n1, n3, fun z hz z' hz' hzz => ?_⟩, fun b hb => ?_⟩
                            · subst hzz
                              obtain ⟨_, m2, _⟩ := n2 z hz
                              obtain ⟨_, _, r', m3, m4⟩ := n4 z hz'
                              rw [m2] at m3
                              injection m3 with m3
                              subst m3
                              exact m4 _ _ hm1
                            · rcases List.mem_append.1 hb with hb | hb
                              · obtain ⟨m1, m2, m3, m4⟩ := n2 b hb
                                exact ⟨m1, m4.keep (hbk b (r4.lt b hb) (r5 b hb)), q, m2, .inl rfl⟩
                              · obtain ⟨m1, m2, r', m3, m4⟩ := n4 b hb
                                exact ⟨m1, m2.keep (hbk b (g5.lt b hb) (hG.1 b hb)), r', m3, .inr m4⟩)
                        unfold Oper.wp
                        rw [hexec _ _ v' w' hvs rfl hsame]
                        simp only [Oper.upon, hdst]
                        exact hK _ _ ⟨⟨_, ow', h1.put hlt (by simp [RelS, RelA, RelC, Cx.setRv]), hpin.rv hpq _⟩, hb.grown g3 (fun b hb => (r2 b hb).1), by rw [size_put]; exact hn⟩ ⟨(fun hw => by rw [hop] at hw; simp [writes] at hw), ⟨v', by rw [hdst], (fun ha => by rw [hop] at ha; cases ha), fun _ y hy b hb0 => by
                          rw [hop] at hy
                          injection hy with hy
                          subst hy
                          have hbo := blk_own g2 hb0
                          rcases g4 with g4 | g4
                          · rw [g4] at hbo
                            refine .inr ?_
                            rw [hvs]
                            obtain ⟨ad, nn, cc, hrv⟩ := hs.rvs q
                            rw [hrv] at hbo ⊢
                            cases ad with
                            | none => cases hbo
                            | some ad => exact hbo
                          · rw [g4] at hbo; injection hbo with hbo; exact .inl (Nat.le_of_eq hbo)⟩, fun y hy b hlt hne => g3.block b hlt (fun e => by
                          rw [hop] at hy
                          injection hy with hy
                          subst hy
                          obtain ⟨ad, nn, cc, hrv⟩ := hs.rvs q
                          rw [hrv] at e
                          cases ad with
                          | none => cases e
                          | some ad => injection e with e; exact hne ad.block (by rw [hvs, hrv]; rfl) e), g3.size⟩
                      · cases hv
                    · cases hv
                  · cases hv
                · cases hv
              · cases hv
            · cases hv
          · cases hv
        · cases hv
      · cases hv
    · cases hv
  · cases hv
end
end Go.V
set_option linter.unusedVariables false
set_option linter.unusedSectionVars false
namespace Go.V
open Go.Ab Go.RowKit
section
variable {P : Program} {w : World} {a : Act} {o : Oper} {B : Nat}

def ResIs (v : Value) : List Value → Prop
  | [u] => v = u
  | us => v = .tuple us.toArray

def Enters (P : Program) (f : FuncId) : Prop := ∀ (args : Array Value) (w : World), (callFunc f args).run P w = .ok (.enter f args) w

theorem enters_of {P : Program} {f : FuncId} {fn : Func} (hf : P.funcs[f]? = some fn) (hn : (fn.name == "runtime.NumGoroutine") = false) (hb : fn.body.isNone = false) : Enters P f := by
  intro args w
  have h1 : fn.name ≠ "runtime.NumGoroutine" := by simpa using hn
  have h2 : fn.body ≠ none := by intro h; rw [h] at hb; cases hb
  simp [callFunc, hf, h1, h2]

theorem exec_call {cl : Call} {f : FuncId} (hop : o.op = .call cl) (hf : cl.callee = .value (.func f)) (he : Enters P f) (w : World) : (execOp a.eval o).run P w = .ok (.enter f (cl.args.map a.eval)) w := by
  have h1 := he (cl.args.map a.eval ++ #[]) w
  simp only [execOp, hop, resolve, hf, Act.eval, Sem.run_bind]
  simp [Deferred.ofValue, invoke]
  simpa using h1

def rvSem (tmps : Array Value) : ResultVar → Sem Value
  | .tmp t => pure (tmps.getD t undef)
  | .cell ad t => do loadVar t (← asAddr (tmps.getD ad undef))

theorem results_eq (fn : Func) (tmps : Array Value) : results fn tmps = (do let vs ← fn.results.mapM (rvSem tmps); pure (if h : vs.size = 1 then vs[0] else .tuple vs)) := by
  have : (rvSem tmps) = (fun | .tmp t => pure (tmps.getD t undef) | .cell a t => do loadVar t (← asAddr (tmps.getD a undef))) := by
    funext r; cases r <;> rfl
  rw [this]
  rfl

end

section
variable {X : Ctx} {E : List Con} {f : F} {a : Act} {w : World} {o : Oper} {R : Type} {K : F → Option R} {r : R}

theorem evMem_sound (h : At X f a w) (hsf : f.subFree) (hd : inFrame X.n o.dst = true) (hv : evMem X.P f o.dst K o.op = some r) : Goes X E o a w f K r := by
  unfold evMem at hv
  split at hv
  · rename_i t hop
    split at hv
    · rename_i d i hdst hi
      split at hv
      · rename_i z hz
        split at hv
        · rename_i hp; exact alloc_goes h hsf hop hdst hd hi hz hp.1 hp.2 hv
        · cases hv
      · cases hv
    · cases hv
  · rename_i t x hop
    split at hv
    · rename_i d y hdst hx
      split at hv
      · rename_i hp; exact box_goes h hsf hop hdst hd hx hp.1 hp.2 hv
      · cases hv
    · cases hv
  · rename_i t p x hop
    split at hv
    · rename_i hdst
      unfold evStore at hv
      split at hv
      · rename_i i off y inf hp hx hi
        split at hv
        · rename_i cs hbx
          split at hv
          · rename_i hc; exact storeBox_goes h hsf hop hdst hp hx hi hbx hc.1 hc.2.1 hc.2.2 hv
          · cases hv
        · cases hv
      · rename_i q k i off y inf hp hx hi
        split at hv
        · rename_i e k' ty l deep hrow
          split at hv
          · rename_i ids dp hmv
            split at hv
            · rename_i hc
              obtain ⟨rfl, c1, c2, c3, c4⟩ := hc
              obtain ⟨_, rlen, _⟩ := id (show RowOk X.M _ _ w _ q e k ty l deep from (h.1.choose_spec.choose_spec.1).obj hrow)
              split at hv
              · rename_i hfull
                split at hv
                · rename_i z hdat
                  rcases cond_some hv with ⟨hil, hv⟩ | ⟨_, hv⟩
                  · have hil : i < l.length := by simpa using hil
                    refine storeRow_goes (n := 0) h hsf hop hdst hp hx hi hrow hmv c1 c2 c3 c4 hil ⟨cells ty z, dataL_all2 hdat, ?_⟩ hv
                    rw [hfull.1]
                    unfold sp
                    simp [cells_len]
                  · cases hv
                · cases hv
              · obtain ⟨el, hel, hv⟩ := bind_some hv
                have hil : i < l.length := (List.getElem?_eq_some_iff.1 hel).1
                have hele : l[i] = el := (List.getElem?_eq_some_iff.1 hel).2
                split at hv
                · rename_i z hdat
                  refine storeRow_goes (n := 0) h hsf hop hdst hp hx hi hrow hmv c1 c2 c3 c4 hil ?_ hv
                  obtain ⟨ts, h1, h2⟩ := dataL_sp (f := f) (by rw [rlen]; exact c2) hdat
                  exact ⟨ts, h1, by rw [hele]; exact h2⟩
                · cases hv
            · cases hv
          · cases hv
        · rename_i k' ty l hrow
          split at hv
          · rename_i hc
            obtain ⟨rfl, c1, c2, c3⟩ := hc
            obtain ⟨el, hel, hv⟩ := bind_some hv
            split at hv
            · rename_i tz z ty' z' hy hold
              split at hv
              · rename_i hf
                split at hv
                · rename_i el' hdat
                  exact storeWin_goes h hsf hop hdst hp hx hi hrow c1 c2 c3 hel hy hold hf.1 hf.2 hdat hv
                · cases hv
              · cases hv
            · cases hv
          · cases hv
        · cases hv
      · cases hv
    · cases hv
  · rename_i t x y hop
    split at hv
    · rename_i d e k1 n k2 m hdst ht hx hy
      split at hv
      · rename_i i ty hi hty
        split at hv
        · rename_i z hz
          split at hv
          · rename_i z0 hz0
            split at hv
            · rename_i hc
              rcases cond_some hv with ⟨hok, hv⟩ | ⟨_, hv⟩
              · exact make_goes h hsf hdst hd hop ht hx hy hi hz hz0 hc.1 hc.2.1 hc.2.2 hok hv
              · cases hv
            · cases hv
          · cases hv
        · cases hv
      · cases hv
    · cases hv
  · rename_i t len ps hop
    split at hv
    · rename_i d e hdst ht
      split at hv
      · rename_i i ty hi hty
        split at hv
        · rename_i es ids dp hl
          split at hv
          · rename_i hc
            obtain ⟨c1, c0, c2, c3, c4, c5, c6⟩ := hc
            exact lit_goes h hsf hdst hd hop ht hi hl c1 c0 c2 c3 c4 c5 c6 hv
          · cases hv
        · cases hv
      · cases hv
    · cases hv
  · rename_i cl hop
    split at hv
    · rename_i d s x t t' hdst hcal hargs htys
      split at hv
      · rename_i htt
        subst htt
        refine app_goes h hsf hdst hd ?_ hv
        rw [hop]
        congr 1
        obtain ⟨cal, ar, ty⟩ := cl
        simp only at hcal hargs htys
        obtain ⟨ar⟩ := ar
        obtain ⟨ty⟩ := ty
        simp only at hargs htys
        subst hcal hargs htys
        rfl
      · cases hv
    · cases hv
  · cases hv

/-! ### contracts -/
def actL (vs : List Value) : Act := { tmps := vs.toArray, defers := [] }
/-- Function fid, called on what the frame 'pre' says, returns what the frame 'post' says, and turns nothing but what it may write. -/
def Meets (P : Program) (fid : FuncId) (pre post : F) : Prop :=
  Enters P fid ∧ ∀ (w : World) (M src : Nat → Prop) (c : Cx) (ow : Nat → Option Nat) (vs : List Value),
    (∀ b, w.heap.size ≤ b → M b) → (∀ b, M b → src b) → SimC M src c ow pre (actL vs) w → vs.length = pre.fr.length →
    Calls P fid vs.toArray w fun e w' => ∃ v us c' ow', e = .returned v ∧ ResIs v us ∧ BelowM M w w' ∧ SimC M src c' ow' post (actL us) w' ∧ us.length = post.fr.length ∧ ∀ o, pinned o = true → c'.loc o = c.loc o ∧ c'.rv o = c.rv o
def Con.Ok (P : Program) (c : Con) : Prop := ∀ x y f g, c.sem x = some y → F0.inj c.pre x = some f → F0.inj c.post y = some g → Meets P c.f f g

/-! ### arguments -/
theorem ofTVs_to : ∀ {ts : List Ty} {xs : List TV} {y : denV ts}, ofTVs ts xs = some y → toTVs ts y = xs
  | [], [], y, h => rfl
  | [], _ :: _, y, h => by cases h
  | [t], [], y, h => by cases h
  | [t], [x], y, h => by
    obtain ⟨e, he⟩ := castTy_some h
    obtain ⟨tx, vx⟩ := x
    subst e
    subst he
    rfl
  | [t], _ :: _ :: _, y, h => by cases h
  | t :: t' :: ts, [], y, h => by cases h
  | t :: t' :: ts, x :: xs, y, h => by
    simp only [ofTVs] at h
    split at h
    · rename_i z zs h1 h2
      injection h with h
      subst h
      obtain ⟨e, he⟩ := castTy_some h1
      obtain ⟨tx, vx⟩ := x
      subst e
      subst he
      show _ :: toTVs (t' :: ts) zs = _
      rw [ofTVs_to h2]
    · cases h
/-- One cell handed over as data. -/
def ArgC (f : F) (d x : C) : Prop := ∃ (t : Ty) (y : den t), d = .v t y ∧ f.data t x = some y
theorem argC_inj {ct : CT} {x : C} {tvs : List TV} (h : argC f ct x = some tvs) (rest : List TV) : ∃ d, ct.inj (tvs ++ rest) = some (d, rest) ∧ ArgC f d x := by
  cases ct with
  | var t =>
    obtain ⟨y, hy, rfl⟩ := Option.map_eq_some_iff.1 h
    exact ⟨.v t y, by show (castTy t t y).map _ = _; rw [castTy_self]; rfl, t, y, rfl, hy⟩
  | _ => cases h
theorem argL_inj : ∀ {cts : List CT} {cs : List C} {tvs : List TV}, argL f cts cs = some tvs → ∀ rest, ∃ ds, injL cts (tvs ++ rest) = some (ds, rest) ∧ All2 (ArgC f) ds cs
  | [], [], tvs, h, rest => by injection h with h; subst h; exact ⟨[], rfl, .nil⟩
  | [], _ :: _, tvs, h, rest => by cases h
  | _ :: _, [], tvs, h, rest => by cases h
  | ct :: cts, x :: xs, tvs, h, rest => by
    simp only [argL] at h
    split at h
    · rename_i a b h1 h2
      injection h with h
      subst h
      obtain ⟨ds, g1, g2⟩ := argL_inj h2 rest
      obtain ⟨d, g3, g4⟩ := argC_inj h1 (b ++ rest)
      refine ⟨d :: ds, ?_, .cons g4 g2⟩
      rw [List.append_assoc]
      simp [injL, g3, g1]
    · cases h
def ArgA (f : F) : A → A → Prop
  | .one d, .one x => ArgC f d x
  | .agg ds, .agg xs => All2 (ArgC f) ds xs
  | _, _ => False
inductive ArgsR (f : F) : Nat → List (Nat × Nat × S) → List Operand → Prop
  | nil {i : Nat} : ArgsR f i [] []
  | cons {i : Nat} {d y : A} {x : Operand} {fr : List (Nat × Nat × S)} {xs : List Operand} (hx : f.get x = some (.val y)) (h : ArgA f d y) (hs : ArgsR f (i + 1) fr xs) : ArgsR f i ((i, 0, .val d) :: fr) (x :: xs)
theorem args_inj : ∀ {i : Nat} {hs : List (Nat × ST)} {xs : List Operand} {tvs : List TV}, argsOf f i hs xs = some tvs → ∀ rest, ∃ fr, injFr F0 hs (tvs ++ rest) = some (fr, rest) ∧ ArgsR f i fr xs
  | i, [], [], tvs, h, rest => by injection h with h; subst h; exact ⟨[], rfl, .nil⟩
  | i, [], _ :: _, tvs, h, rest => by cases h
  | i, _ :: _, [], tvs, h, rest => by cases h
  | i, (j, st) :: hs, x :: xs, tvs, h, rest => by
    simp only [argsOf] at h
    split at h
    · rename_i hij
      subst hij
      split at h
      · rename_i a b h1 h2
        injection h with h
        subst h
        obtain ⟨fr, g1, g2⟩ := args_inj h2 rest
        unfold argS at h1
        split at h1
        · rename_i ct y hg
          obtain ⟨d, g3, g4⟩ := argC_inj h1 (b ++ rest)
          refine ⟨(i, 0, .val (.one d)) :: fr, ?_, .cons hg g4 g2⟩
          rw [List.append_assoc, injFr, g3]
          simp only [g1]
          rfl
        · rename_i cts ys hg
          obtain ⟨ds, g3, g4⟩ := argL_inj h1 (b ++ rest)
          refine ⟨(i, 0, .val (.agg ds)) :: fr, ?_, .cons hg g4 g2⟩
          rw [List.append_assoc, injFr, g3]
          simp only [g1]
          rfl
        · cases h1
      · cases h
    · cases h
/-- Data behind a cell that is no row and no part of one: its blocks are let. -/
theorem data_ok {M src : Nat → Prop} {c : Cx} {ow : Nat → Option Nat} (h : SimC M src c ow f a w) {t : Ty} {x : C} {y : den t} {v : Value} (hd : f.data t x = some y) (hv : RelC c ow w (okB src c ow f.ob) v x) (hr : ∀ r, x ≠ .row r) (hs : x.isSub = false) : ∃ G, Rep w v (leafT t y) G ∧ ∀ b ∈ G, okB src c ow f.ob b := by
  unfold F.data at hd
  split at hd
  · obtain ⟨rfl, rfl⟩ := castTy_some hd
    exact hv
  · split at hd
    · injection hd with hd; subst hd
      have hv : v = .slice none 0 0 := hv
      subst hv
      exact ⟨[], .nil (Nat.zero_le _), by simp⟩
    · cases hd
  · rename_i r; exact absurd rfl (hr r)
  · cases hs
  · cases hd
end
end Go.V
set_option linter.unusedVariables false
set_option linter.unusedSectionVars false
namespace Go.V
open Go.Ab Go.RowKit

section
variable {c c' : Cx} {ow : Nat → Option Nat} {w : World} {ok : Nat → Prop} {v : Value}
theorem RelC.agree {x : C} (h : RelC c ow w ok v x) (k : ∀ o, x.names o = true → c'.loc o = c.loc o ∧ c'.rv o = c.rv o) : RelC c' ow w ok v x := by
  cases x with
  | row r => have := (k r (by simp [C.names])).2; simp only [RelC] at h ⊢; rw [this]; exact h
  | ptr o off => have := (k o (by simp [C.names])).1; simp only [RelC] at h ⊢; rw [this]; exact h
  | rp r k' i off => have := (k r (by simp [C.names])).2; simp only [RelC] at h ⊢; rw [this]; exact h
  | sub r k' i off t x => have := (k r (by simp [C.names])).2; simp only [RelC] at h ⊢; rw [this]; exact h
  | ip r k' i off m j p => have := (k r (by simp [C.names])).2; simp only [RelC] at h ⊢; rw [this]; exact h
  | v _ _ => exact h
  | nil => exact h
  | ep _ _ _ => exact h
  | clo g o => have := (k o (by simp [C.names])).1; simp only [RelC] at h ⊢; rw [this]; exact h
  | any => exact h
theorem RelA.agree {x : A} (h : RelA c ow w ok v x) (k : ∀ o, x.names o = true → c'.loc o = c.loc o ∧ c'.rv o = c.rv o) : RelA c' ow w ok v x := by
  cases x with
  | one t => exact RelC.agree h k
  | agg ts =>
    obtain ⟨vs, hv, ha⟩ := h
    exact ⟨vs, hv, ha.mono fun a b hb hr => hr.agree fun o ho => k o (by simp only [A.names, List.any_eq_true]; exact ⟨b, hb, ho⟩)⟩
theorem RelS.agree {x : S} (h : RelS c ow w ok v x) (k : ∀ o, x.names o = true → c'.loc o = c.loc o ∧ c'.rv o = c.rv o) : RelS c' ow w ok v x := by
  cases x with
  | val x => exact RelA.agree h k
  | tup xs =>
    obtain ⟨vs, hv, ha⟩ := h
    exact ⟨vs, hv, ha.mono fun a b hb hr => hr.agree fun o ho => k o (by simp only [S.names, List.any_eq_true]; exact ⟨b, hb, ho⟩)⟩
  | un => exact h
end

/-! ### what is taken over -/
/-- An object with some cells forgotten. -/
inductive O.sc : O → O → Prop
  | refl {x : O} : O.sc x x
  | box {cs' cs : List C} (h : All2 C.le cs' cs) : O.sc (.box cs') (.box cs)
theorem O.sc.le {x y : O} (h : O.sc x y) : x.le y := by
  cases h with
  | refl => exact O.le_refl _
  | box h => exact .box h
theorem C.le_trans {x y z : C} (h : x.le y) (k : y.le z) : x.le z := by
  rcases h with rfl | rfl
  · exact k
  · exact .inr rfl
theorem All2.le_trans : ∀ {xs ys zs : List C}, All2 C.le xs ys → All2 C.le ys zs → All2 C.le xs zs
  | [], _, _, .nil, .nil => .nil
  | _ :: _, _, _, .cons h hs, .cons k ks => .cons (C.le_trans h k) (All2.le_trans hs ks)
theorem O.sc.trans {x y z : O} (h : O.sc x y) (k : O.sc y z) : O.sc x z := by
  cases h with
  | refl => exact k
  | box h =>
    cases k with
    | refl => exact .box h
    | box k => exact .box (h.le_trans k)
theorem all2_names {o : Nat} : ∀ {as bs : List C}, All2 C.le as bs → bs.any (C.names o) = false → as.any (C.names o) = false
  | [], _, .nil, _ => rfl
  | _ :: _, _, .cons h hs, hb => by
    simp only [List.any_cons, Bool.or_eq_false_iff] at hb ⊢
    refine ⟨?_, all2_names hs hb.2⟩
    rcases h with rfl | rfl
    · exact hb.1
    · rfl
theorem O.sc.names {x y : O} (h : O.sc x y) {o : Nat} (hy : y.names o = false) : x.names o = false := by
  cases h with
  | refl => exact hy
  | box h => exact all2_names h hy
theorem O.scrub_sc (d : Nat) (y : O) : O.sc (y.scrub d) y := by
  cases y with
  | box cs => exact .box (scrubC_le d cs)
  | row _ _ _ _ _ => exact .refl
  | win _ _ _ => exact .refl
theorem scrubC_other {d : Nat} {x : C} {o : Nat} (h : x.names o = false) : (scrubC d x).names o = false := by
  unfold scrubC
  split
  · rfl
  · exact h
theorem O.scrub_other {d o : Nat} {y : O} (h : y.names o = false) : (y.scrub d).names o = false := by
  cases y with
  | box cs =>
    simp only [O.names, O.scrub, List.any_eq_false, List.mem_map] at h ⊢
    rintro _ ⟨u, hu, rfl⟩
    rw [scrubC_other (by simpa using h u hu)]; simp
  | row _ _ _ _ _ => rfl
  | win _ _ _ => rfl
theorem takeO_names (win : Bool) (o : Nat) {x : O} (hx : ∀ cs, x ≠ .box cs) : (takeO win x).names o = false := by
  cases x with
  | box cs => exact absurd rfl (hx cs)
  | row _ _ _ _ _ => cases win <;> rfl
  | win _ _ _ => rfl
theorem takeO_sub (win : Bool) {x : O} (hx : ∀ cs, x ≠ .box cs) : (takeO win x).isSub = false := by
  cases x with
  | box cs => exact absurd rfl (hx cs)
  | row _ _ _ _ _ => cases win <;> rfl
  | win _ _ _ => rfl
theorem takeO_scrub (win : Bool) (d : Nat) {x : O} (hx : ∀ cs, x ≠ .box cs) : (takeO win x).scrub d = takeO win x := by
  cases x with
  | box cs => exact absurd rfl (hx cs)
  | row _ _ _ _ _ => cases win <;> rfl
  | win _ _ _ => rfl

section
variable {f : F} {d : Nat} {win : Bool}
theorem adopt_fr : ∀ {es : List (Nat × Nat × O)} {f : F} {s n : Nat} {x : S}, (s, n, x) ∈ (adopt d win f es).fr → (s, n, x) ∈ f.fr ∧ ∀ e ∈ es, x.names (callId d + e.1) = false
  | [], f, s, n, x, h => ⟨h, by simp⟩
  | e :: es, f, s, n, x, h => by
    obtain ⟨h1, h2⟩ := adopt_fr (es := es) (f := f.add (callId d + e.1) (takeO win e.2.2)) h
    have h1' : (s, n, x) ∈ (f.scrub (callId d + e.1)).fr := h1
    refine ⟨(List.mem_filter.1 h1').1, fun e' he' => ?_⟩
    rcases List.mem_cons.1 he' with rfl | he'
    · simpa using (List.mem_filter.1 h1').2
    · exact h2 e' he'
theorem adopt_ob : ∀ {es : List (Nat × Nat × O)} {f : F} {o n : Nat} {x : O}, (∀ e ∈ es, ∀ cs, e.2.2 ≠ .box cs) → (o, n, x) ∈ (adopt d win f es).ob →
    (∃ e ∈ es, o = callId d + e.1 ∧ x = takeO win e.2.2) ∨ ((∀ e ∈ es, o ≠ callId d + e.1) ∧ ∃ m y, (o, m, y) ∈ f.ob ∧ O.sc x y ∧ (∀ e ∈ es, x.names (callId d + e.1) = false) ∧ (y.isSub = false → x.isSub = false))
  | [], f, o, n, x, _, h => .inr ⟨by simp, n, x, h, .refl, by simp, id⟩
  | e :: es, f, o, n, x, hr, h => by
    rcases adopt_ob (es := es) (f := f.add (callId d + e.1) (takeO win e.2.2)) (fun e' he' => hr e' (List.mem_cons_of_mem _ he')) h with ⟨e', he', h1, h2⟩ | ⟨h1, m, y, hy, h2, h3, h4⟩
    · exact .inl ⟨e', List.mem_cons_of_mem _ he', h1, h2⟩
    · rcases List.mem_cons.1 hy with he | hy
      · injection he with e1 he
        injection he with _ e2
        subst e1 e2
        have : x = takeO win e.2.2 := by
          have hb := hr e (List.mem_cons_self ..)
          cases hx : e.2.2 with
          | box cs => exact absurd hx (hb cs)
          | row _ _ _ _ _ => rw [hx] at h2; cases win <;> (cases h2; rfl)
          | win _ _ _ => rw [hx] at h2; cases h2; rfl
        exact .inl ⟨e, List.mem_cons_self .., rfl, this⟩
      · obtain ⟨hne, m', z, hz, rfl⟩ := scrub_mem' hy
        refine .inr ⟨fun e' he' => ?_, m', z, hz, h2.trans (O.scrub_sc _ z), fun e' he' => ?_, fun hz' => h4 (O.scrub_isSub hz')⟩
        · rcases List.mem_cons.1 he' with rfl | he'
          · exact hne
          · exact h1 e' he'
        · rcases List.mem_cons.1 he' with rfl | he'
          · exact h2.names (O.scrub_names z _)
          · exact h3 e' he'
def F.uniq (f : F) : Prop := ∀ o n x m y, (o, n, x) ∈ f.ob → (o, m, y) ∈ f.ob → x = y
theorem add_uniq {f : F} (h : f.uniq) (d : Nat) (x : O) : (f.add d x).uniq := by
  intro o n y m z hy hz
  rcases List.mem_cons.1 hy with he | hy1
  · injection he with e1 e2
    injection e2 with _ e2
    rcases List.mem_cons.1 hz with he' | hz1
    · injection he' with e3 e4
      injection e4 with _ e4
      rw [e2, e4]
    · exact absurd e1 (scrub_mem' hz1).1
  · rcases List.mem_cons.1 hz with he' | hz1
    · injection he' with e3 e4
      exact absurd e3 (scrub_mem' hy1).1
    · obtain ⟨_, _, y', hy', rfl⟩ := scrub_mem' hy1
      obtain ⟨_, _, z', hz', rfl⟩ := scrub_mem' hz1
      rw [h _ _ _ _ _ hy' hz']
theorem adopt_uniq : ∀ {es : List (Nat × Nat × O)} {f : F}, f.uniq → (adopt d win f es).uniq
  | [], f, h => h
  | e :: es, f, h => adopt_uniq (es := es) (add_uniq h _ _)
theorem Ext.adopt : ∀ (es : List (Nat × Nat × O)) (f : F), Ext f (adopt d win f es)
  | [], f => .refl f
  | e :: es, f => (Ext.add f _ _).trans (Ext.adopt es _)
end

section
variable {M src : Nat → Prop} {c : Cx} {ow : Nat → Option Nat} {f : F} {a : Act} {w : World}
theorem ObOk.lt {ok : Nat → Prop} {o : Nat} {x : O} (h : ObOk M c ow w ok o x) (hx : ∀ k t l, x ≠ .win k t l) {b : Nat} (hb : x.blk c ow o b) : b < w.heap.size := by
  cases x with
  | box cs => have hb : c.loc o = b := hb; subst hb; exact BoxOk.lt h
  | row e k t l deep => obtain ⟨_, _, _, xs, G, r3, _⟩ := h; exact (ownsRow_lt r3 hb).1
  | win k t l => exact absurd rfl (hx k t l)
/-- Blocks that come to be are owned by nobody. -/
theorem SimC.trim (h : SimC M src c ow f a w) : SimC M src c (fun b => if b < w.heap.size then ow b else none) f a w := by
  have hown : ∀ b, b < w.heap.size → (if b < w.heap.size then ow b else none) = ow b := fun b hb => if_pos hb
  have hlive : ∀ b, live c (fun b => if b < w.heap.size then ow b else none) f.ob b → live c ow f.ob b := by
    rintro b ⟨o, n, x, hm, hx⟩
    refine ⟨o, n, x, hm, ?_⟩
    cases x with
    | box _ => exact hx
    | row _ _ _ _ _ => exact hx
    | win _ _ _ =>
      have hx : (if b < w.heap.size then ow b else none) = some o := hx
      show ow b = some o
      split at hx
      · exact hx
      · cases hx
  have hok : ∀ b, b < w.heap.size → okB src c ow f.ob b → okB src c (fun b => if b < w.heap.size then ow b else none) f.ob b := fun b _ hb => ⟨hb.1, fun hl => hb.2 (hlive b hl)⟩
  have hrel : ∀ v (x : C), RelC c ow w (okB src c ow f.ob) v x → RelC c (fun b => if b < w.heap.size then ow b else none) w (okB src c (fun b => if b < w.heap.size then ow b else none) f.ob) v x := by
    intro v x hx
    cases x with
    | sub r k i off t y =>
      obtain ⟨g, b0, n, cap, h1, h2, G, h3, h4⟩ := hx
      exact ⟨g, b0, n, cap, h1, h2, G, h3, fun b hb => (hown b (h3.lt b hb)).trans (h4 b hb)⟩
    | ip _ _ _ _ _ _ _ => exact hx
    | v t y => exact RelC.good (ow := ow) hx hok
    | ep t y off => exact RelC.good (ow := ow) hx hok
    | nil => exact hx
    | row _ => exact hx
    | ptr _ _ => exact hx
    | rp _ _ _ _ => exact hx
    | clo _ _ => exact hx
    | any => exact hx
  have hrelA : ∀ v (x : A), RelA c ow w (okB src c ow f.ob) v x → RelA c (fun b => if b < w.heap.size then ow b else none) w (okB src c (fun b => if b < w.heap.size then ow b else none) f.ob) v x := by
    intro v x hx
    cases x with
    | one y => exact hrel v y hx
    | agg ys => obtain ⟨vs, rfl, ha⟩ := hx; exact ⟨vs, rfl, ha.mono fun u y _ hy => hrel u y hy⟩
  refine ⟨h.defers, fun s n x hm => ?_, fun o n x hm => ?_, h.uniq, h.rvs⟩
  · obtain ⟨v, hv, h1⟩ := h.fr s n x hm
    refine ⟨v, hv, ?_⟩
    cases x with
    | val y => exact hrelA v y h1
    | tup ys => obtain ⟨vs, rfl, ha⟩ := h1; exact ⟨vs, rfl, ha.mono fun u y _ hy => hrelA u y hy⟩
    | un => exact h1
  · have ho := h.ob o n x hm
    cases x with
    | box cs =>
      have hlt := BoxOk.lt ho
      obtain ⟨b1, b2, vs, ty, b3, b4⟩ := ho
      exact ⟨b1, (hown _ hlt).trans b2, vs, ty, b3, b4.mono fun u y _ hy => hrel u y hy⟩
    | row e k t l deep =>
      obtain ⟨r0, r1, r2, xs, G, r3, r4, r5, r6⟩ := ho
      exact ⟨r0, r1, fun g hg => ⟨(r2 g hg).1, (hown _ (ownsRow_lt r3 hg).1).trans (r2 g hg).2⟩, xs, G, r3, r4, fun b hb => hok b (r4.lt b hb) (r5 b hb), fun hd => ⟨(r6 hd).1, fun b hb => by
        obtain ⟨q1, q2, q3, q4⟩ := (r6 hd).2 b hb
        exact ⟨q1, (hown _ (r4.lt b hb)).trans q2, q3, q4⟩⟩⟩
    | win k t l =>
      obtain ⟨r0, r1, G, r2, r3, r4⟩ := ho
      exact ⟨r0, r1, G, r2, r3, fun b hb => ⟨(r4 b hb).1, (hown _ (r2.lt b hb)).trans (r4 b hb).2.1, (r4 b hb).2.2⟩⟩
end
end Go.V
set_option linter.unusedVariables false
set_option linter.unusedSectionVars false
namespace Go.V
open Go.Ab Go.RowKit

section
variable {M src : Nat → Prop} {c : Cx} {ow : Nat → Option Nat} {f : F} {a : Act} {w : World}

theorem okPost_iff {sl win : Bool} {d : Nat} {p : F} (h : okPost sl win d p = true) : p.fr.map (·.1) = List.range p.fr.length ∧ (p.ob.map (·.1)).Nodup ∧ (∀ e ∈ p.ob, okO d e = true) ∧ (∀ e ∈ p.fr, okS sl (p.ob.map (·.1)) e.2.2 = true) ∧ ¬ (sl = true ∧ win = true) := by
  simp only [okPost, Bool.and_eq_true, beq_iff_eq, List.all_eq_true, Bool.not_eq_true'] at h
  obtain ⟨h1, h2, h3, h4, h5⟩ := h
  exact ⟨h1, nodupB_sound h2, h3, h4, fun ⟨e1, e2⟩ => by rw [e1, e2] at h5; cases h5⟩
theorem okO_row {d : Nat} {e : Nat × Nat × O} (h : okO d e = true) : (∃ x k, ∃ (t : Ty) (l : List (den t)), e.2.2 = .row x k t l true) ∧ pinned (callId d + e.1) = false := by
  unfold okO at h
  split at h
  · rename_i x k t l he
    exact ⟨⟨x, k, t, l, he⟩, by simpa using h⟩
  · cases h

/-- Contexts and owners of the joined frame. -/
theorem join_sound (h : SimC M src c ow f a w) (hsf : f.subFree) (hown0 : ∀ b, w.heap.size ≤ b → ow b = none) {M' src' : Nat → Prop} {c' : Cx} {ow' : Nat → Option Nat} {p : F} {a' : Act} {w' : World} {d : Nat} {sl win : Bool} (hp : SimC M' src' c' ow' p a' w') (hM' : ∀ b, M' b → w.heap.size ≤ b ∧ M b ∧ src b) (hsz : w.heap.size ≤ w'.heap.size) (hblk : ∀ b, b < w.heap.size → w'.heap[b]? = w.heap[b]?)
    (hpost : okPost sl win d p = true) (hsl : sl = true → ∀ b, src' b → (w.heap.size ≤ b ∧ src b) ∨ (b < w.heap.size ∧ okB src c ow f.ob b)) :
    ∃ c'' ow'', SimC M src c'' ow'' (adopt d win f p.ob) a w' ∧ (∀ o, pinned o = true → c''.loc o = c.loc o ∧ c''.rv o = c.rv o) ∧ ∀ v x, okA sl (p.ob.map (·.1)) x = true → RelA c' ow' w' (okB src' c' ow' p.ob) v x → RelA c'' ow'' w' (okB src c'' ow'' (adopt d win f p.ob).ob) v (shA (callId d) x) := by
  classical
  obtain ⟨hp1, hp2, hp3, hp4, hp5⟩ := okPost_iff hpost
  have hrow : ∀ e ∈ p.ob, ∃ x k, ∃ (t : Ty) (l : List (den t)), e.2.2 = .row x k t l true := fun e he => (okO_row (hp3 e he)).1
  have hnbox : ∀ e ∈ p.ob, ∀ cs, e.2.2 ≠ .box cs := fun e he cs hc => by obtain ⟨x, k, t, l, h1⟩ := hrow e he; rw [h1] at hc; cases hc
  let isN : Nat → Prop := fun o => ∃ e ∈ p.ob, o = callId d + e.1
  let c'' : Cx := ⟨fun o => if isN o then c'.loc (o - callId d) else c.loc o, fun o => if isN o then c'.rv (o - callId d) else c.rv o⟩
  let ow'' : Nat → Option Nat := fun b => if b < w.heap.size then (if ∃ o, isN o ∧ ow b = some o then none else ow b) else if ∃ e ∈ p.ob, ow' b = some e.1 then (ow' b).map (callId d + ·) else none
  have hcN : ∀ e ∈ p.ob, c''.rv (callId d + e.1) = c'.rv e.1 := fun e he => by
    have : isN (callId d + e.1) := ⟨e, he, rfl⟩
    show (if isN (callId d + e.1) then c'.rv (callId d + e.1 - callId d) else _) = _
    rw [if_pos this]
    congr 1
    omega
  have hcO : ∀ o, ¬ isN o → c''.loc o = c.loc o ∧ c''.rv o = c.rv o := fun o ho => ⟨if_neg ho, if_neg ho⟩
  have howO : ∀ b o, b < w.heap.size → ¬ isN o → ow b = some o → ow'' b = some o := fun b o hb ho h1 => by
    show (if b < w.heap.size then _ else _) = _
    rw [if_pos hb, if_neg]
    · exact h1
    · rintro ⟨o', ho', h2⟩
      rw [h1] at h2
      injection h2 with h2
      subst h2
      exact ho ho'
  have howN : ∀ b, w.heap.size ≤ b → ∀ e ∈ p.ob, ow' b = some e.1 → ow'' b = some (callId d + e.1) := fun b hb e he h1 => by
    show (if b < w.heap.size then _ else _) = _
    rw [if_neg (by omega), if_pos ⟨e, he, h1⟩, h1]
    rfl
  have howI : ∀ b o, ow'' b = some o → (b < w.heap.size ∧ ow b = some o ∧ ¬ isN o) ∨ (w.heap.size ≤ b ∧ ∃ e ∈ p.ob, o = callId d + e.1 ∧ ow' b = some e.1) := by
    intro b o h1
    have h1 : (if b < w.heap.size then (if ∃ o, isN o ∧ ow b = some o then none else ow b) else if ∃ e ∈ p.ob, ow' b = some e.1 then (ow' b).map (callId d + ·) else none) = some o := h1
    split at h1
    · rename_i hb
      split at h1
      · cases h1
      · rename_i hx; exact .inl ⟨hb, h1, fun ho => hx ⟨o, ho, h1⟩⟩
    · rename_i hb
      split at h1
      · rename_i hx
        obtain ⟨e, he, h2⟩ := hx
        rw [h2] at h1
        injection h1 with h1
        exact .inr ⟨by omega, e, he, h1.symm, h2⟩
      · cases h1
  have hold : ∀ o, (∀ e ∈ p.ob, o ≠ callId d + e.1) → ¬ isN o := fun o ho ⟨e, he, h1⟩ => ho e he h1
  have hlv : ∀ b, live c'' ow'' (adopt d win f p.ob).ob b → (b < w.heap.size ∧ live c ow f.ob b) ∨ (w.heap.size ≤ b ∧ (live c' ow' p.ob b ∨ win = true)) := by
    rintro b ⟨o, n, x, hm, hx⟩
    rcases adopt_ob hnbox hm with ⟨e, he, rfl, rfl⟩ | ⟨hne, m, y, hy, hsc, _, _⟩
    · obtain ⟨x, k, t, l, hxe⟩ := hrow e he
      rw [hxe] at hx
      cases win with
      | true =>
        have hx : ow'' b = some (callId d + e.1) := hx
        rcases howI b _ hx with ⟨h1, h2, h3⟩ | ⟨h1, _⟩
        · exact absurd ⟨e, he, rfl⟩ h3
        · exact .inr ⟨h1, .inr rfl⟩
      | false =>
        have hx : (c''.rv (callId d + e.1)).ownBlock = some b := hx
        rw [hcN e he] at hx
        have hob := hp.ob e.1 e.2.1 e.2.2 he
        rw [hxe] at hob
        have hM := (hob.2.2.1 b hx).1
        exact .inr ⟨(hM' b hM).1, .inl ⟨e.1, e.2.1, e.2.2, he, by rw [hxe]; exact hx⟩⟩
    · have hnN := hold o hne
      have hob := h.ob o m y hy
      have hyb := hsc.le.blk hx
      cases y with
      | box cs =>
        have hyb : c''.loc o = b := hyb
        rw [(hcO o hnN).1] at hyb
        exact .inl ⟨hob.lt (by simp) hyb, ⟨o, m, _, hy, hyb⟩⟩
      | row e k t l deep =>
        have hyb : (c''.rv o).ownBlock = some b := hyb
        rw [(hcO o hnN).2] at hyb
        exact .inl ⟨hob.lt (by simp) hyb, ⟨o, m, _, hy, hyb⟩⟩
      | win k t l =>
        have hyb : ow'' b = some o := hyb
        rcases howI b o hyb with ⟨h1, h2, _⟩ | ⟨_, e, he, h3, _⟩
        · exact .inl ⟨h1, ⟨o, m, _, hy, h2⟩⟩
        · exact absurd h3 (hne e he)
  have hokO : ∀ b, b < w.heap.size → okB src c ow f.ob b → okB src c'' ow'' (adopt d win f p.ob).ob b := fun b hlt hok => ⟨hok.1, fun hl => by
    rcases hlv b hl with ⟨_, h1⟩ | ⟨h1, _⟩
    · exact hok.2 h1
    · omega⟩
  have kp : Keeps w w' (okB src c ow f.ob) (okB src c'' ow'' (adopt d win f p.ob).ob) := ⟨hsz, fun b hlt _ => hblk b hlt, hokO⟩
  refine ⟨c'', ow'', ⟨h.defers, fun s n x hm => ?_, fun o n x hm => ?_, adopt_uniq h.uniq, fun r => ?_⟩, fun o ho => ?_, fun v x hx hr => ?_⟩
  · obtain ⟨h1, h2⟩ := adopt_fr hm
    obtain ⟨v, hv, h3⟩ := h.fr s n x h1
    refine ⟨v, hv, (h3.agree fun o ho => hcO o fun ⟨e, he, h4⟩ => ?_).keep (hsf.1 s n x h1) kp⟩
    have := h2 e he
    rw [← h4, ho] at this
    cases this
  · rcases adopt_ob hnbox hm with ⟨e, he, rfl, rfl⟩ | ⟨hne, m, y, hy, hsc, hnm, hsub⟩
    · obtain ⟨x, k, t, l, hxe⟩ := hrow e he
      have hob := hp.ob e.1 e.2.1 e.2.2 he
      rw [hxe] at hob ⊢
      obtain ⟨r0, r1, r2, xs, G, r3, r4, r5, r6⟩ := hob
      obtain ⟨n1, n2⟩ := r6 rfl
      cases win with
      | false =>
        refine ⟨r0, r1, fun g hg => ?_, xs, G, by rw [hcN e he]; exact r3, r4, fun b hb => ?_, fun _ => ⟨n1, fun b hb => ?_⟩⟩
        · rw [hcN e he] at hg
          obtain ⟨q1, q2⟩ := r2 g hg
          exact ⟨(hM' g q1).2.1, howN g (hM' g q1).1 e he q2⟩
        · have q1 := (n2 b hb).1
          refine ⟨(hM' b q1).2.2, fun hl => ?_⟩
          rcases hlv b hl with ⟨h1, _⟩ | ⟨_, h2 | h2⟩
          · have := (hM' b q1).1; omega
          · exact (r5 b hb).2 h2
          · cases h2
        · obtain ⟨q1, q2, q3, q4⟩ := n2 b hb
          exact ⟨(hM' b q1).2.1, howN b (hM' b q1).1 e he q2, by rw [hcN e he]; exact q3, q4⟩
      | true =>
        obtain ⟨G', g1, g2, g3⟩ := row_taken hp (obj_of_mem hp (show (e.1, e.2.1, O.row x k t l true) ∈ p.ob by rw [← hxe]; exact he))
        obtain ⟨g4, g5⟩ := g3 rfl
        refine ⟨r0, r1, G', by rw [hcN e he]; exact g1, g4, fun b hb => ?_⟩
        obtain ⟨q1, q2, r', hr', q3⟩ := g5 b hb
        rw [List.mem_singleton.1 hr'] at q3
        exact ⟨(hM' b q1).2.1, howN b (hM' b q1).1 e he q3, q2⟩
    · have hnN := hold o hne
      have h1 := (h.ob o m y hy).le h.rvs hsc.le
      have hs1 := hsub (hsf.2 o m y hy)
      have h2 : ObOk M c'' ow w (okB src c ow f.ob) o x := by
        obtain ⟨k1, k2⟩ := hcO o hnN
        cases x with
        | box cs =>
          obtain ⟨b1, b2, vs, ty, b3, b4⟩ := h1
          refine ⟨by rw [k1]; exact b1, by rw [k1]; exact b2, vs, ty, by rw [k1]; exact b3, b4.mono fun u z hz hr => hr.agree fun q hq => hcO q fun ⟨e, he, h4⟩ => ?_⟩
          have := hnm e he
          simp only [O.names, List.any_eq_false] at this
          exact this z hz (by rw [← h4]; exact hq)
        | row e k t l deep =>
          obtain ⟨r0, r1, r2, xs, G, r3, r4, r5, r6⟩ := h1
          exact ⟨r0, r1, by rw [k2]; exact r2, xs, G, by rw [k2]; exact r3, r4, r5, by rw [k2]; exact r6⟩
        | win k t l =>
          obtain ⟨r0, r1, G, r2, r3, r4⟩ := h1
          exact ⟨r0, r1, G, by rw [k2]; exact r2, r3, r4⟩
      exact h2.keep hs1 kp (fun b hlt _ _ => hblk b hlt) (fun b hlt h3 => howO b o hlt hnN h3)
  · show ∃ ad n k, (if isN r then c'.rv (r - callId d) else c.rv r) = .slice ad n k
    split
    · exact hp.rvs _
    · exact h.rvs r
  · refine hcO o fun ⟨e, he, h1⟩ => ?_
    have := (okO_row (hp3 e he)).2
    rw [← h1, ho] at this
    cases this
  · have hC : ∀ (v : Value) (x : C), okC sl (p.ob.map (·.1)) x = true → RelC c' ow' w' (okB src' c' ow' p.ob) v x → RelC c'' ow'' w' (okB src c'' ow'' (adopt d win f p.ob).ob) v (shC (callId d) x) := by
      intro v x hx hr
      cases x with
      | v t y =>
        obtain ⟨G, g1, g2⟩ := hr
        simp only [okC, Bool.or_eq_true] at hx
        cases hs : sl with
        | false =>
          rw [hs] at hx
          have hfl : flat t = true := by simpa using hx
          obtain ⟨rfl, _⟩ := flat_lit g1 hfl
          exact ⟨[], g1, by simp⟩
        | true =>
          refine ⟨G, g1, fun b hb => ?_⟩
          obtain ⟨q1, q2⟩ := g2 b hb
          have hwin : win = false := by
            cases hw : win with
            | false => rfl
            | true => exact absurd ⟨hs, hw⟩ hp5
          rcases hsl hs b q1 with ⟨h1, h2⟩ | ⟨h1, h2⟩
          · refine ⟨h2, fun hl => ?_⟩
            rcases hlv b hl with ⟨h3, _⟩ | ⟨_, h4 | h4⟩
            · omega
            · exact q2 h4
            · rw [hwin] at h4; cases h4
          · exact hokO b h1 h2
      | row r =>
        simp only [okC] at hx
        have hx : r ∈ p.ob.map (·.1) := by simpa using hx
        obtain ⟨e, he, rfl⟩ := List.mem_map.1 hx
        have hr : v = c'.rv e.1 := hr
        show v = c''.rv (callId d + e.1)
        rw [hcN e he]
        exact hr
      | _ => cases hx
    cases x with
    | one y => exact hC v y hx hr
    | agg ys =>
      obtain ⟨vs, rfl, ha⟩ := hr
      simp only [okA, List.all_eq_true] at hx
      refine ⟨vs, rfl, ?_⟩
      have : ∀ {us : List Value} {zs : List C}, All2 (RelC c' ow' w' (okB src' c' ow' p.ob)) us zs → (∀ z ∈ zs, okC sl (p.ob.map (·.1)) z = true) → All2 (RelC c'' ow'' w' (okB src c'' ow'' (adopt d win f p.ob).ob)) us (zs.map (shC (callId d))) := by
        intro us zs hu
        induction hu with
        | nil => intro _; exact .nil
        | cons h1 h2 ih => intro hz; exact .cons (hC _ _ (hz _ (List.mem_cons_self ..)) h1) (ih fun z hz' => hz z (List.mem_cons_of_mem _ hz'))
      exact this ha hx

/-- The values that a callee hands back, one by one. -/
theorem results_all {M' src' : Nat → Prop} {c' : Cx} {ow' : Nat → Option Nat} {p : F} {us : List Value} {sl : Bool} {ids : List Nat} (hp : SimC M' src' c' ow' p (actL us) w) (hlen : us.length = p.fr.length) (h1 : p.fr.map (·.1) = List.range p.fr.length) (h2 : ∀ e ∈ p.fr, okS sl ids e.2.2 = true) : All2 (RelA c' ow' w (okB src' c' ow' p.ob)) us (resAs p.fr) ∧ ∀ x ∈ resAs p.fr, okA sl ids x = true := by
  have key : ∀ (es : List (Nat × Nat × S)) (k : Nat), (∀ e ∈ es, e ∈ p.fr) → es.map (·.1) = List.range' k es.length → (∀ e ∈ es, okS sl ids e.2.2 = true) → k + es.length = us.length → All2 (RelA c' ow' w (okB src' c' ow' p.ob)) (us.drop k) (resAs es) ∧ ∀ x ∈ resAs es, okA sl ids x = true := by
    intro es
    induction es with
    | nil =>
      intro k _ _ _ hk
      have : us.drop k = [] := List.drop_eq_nil_of_le (by simp at hk; omega)
      rw [this]
      exact ⟨.nil, by simp [resAs]⟩
    | cons e es ih =>
      intro k hm hr ho hk
      obtain ⟨s, n, x⟩ := e
      simp only [List.map_cons, List.length_cons, List.range'_succ, List.cons.injEq] at hr
      obtain ⟨rfl, hr⟩ := hr
      have hox := ho (s, n, x) (List.mem_cons_self ..)
      cases x with
      | val y =>
        obtain ⟨i1, i2⟩ := ih (s + 1) (fun e he => hm e (List.mem_cons_of_mem _ he)) hr (fun e he => ho e (List.mem_cons_of_mem _ he)) (by simp at hk; omega)
        obtain ⟨v, hv, hrel⟩ := hp.fr s n _ (hm _ (List.mem_cons_self ..))
        have hv' : us[s]? = some v := by simpa [actL] using hv
        have hlt : s < us.length := (List.getElem?_eq_some_iff.1 hv').1
        rw [List.drop_eq_getElem_cons hlt]
        have he : us[s] = v := (List.getElem?_eq_some_iff.1 hv').2
        rw [he]
        refine ⟨.cons hrel i1, fun z hz => ?_⟩
        rcases List.mem_cons.1 hz with rfl | hz
        · exact hox
        · exact i2 z hz
      | tup _ => cases hox
      | un => cases hox
  have := key p.fr 0 (fun e he => he) (by rw [h1, List.range_eq_range']) h2 (by omega)
  simpa using this
end

section
variable {X : Ctx} {E : List Con} {f : F} {a : Act} {w : World} {o : Oper} {R : Type} {K : F → Option R} {r : R}
theorem RelS_res {c : Cx} {ow : Nat → Option Nat} {ok : Nat → Prop} {v : Value} {us : List Value} {xs : List A} (hv : ResIs v us) (h : All2 (RelA c ow w ok) us xs) : RelS c ow w ok v (resS xs) := by
  cases h with
  | nil => exact ⟨[], hv, .nil⟩
  | cons h1 h2 =>
    cases h2 with
    | nil => have hv : v = _ := hv; subst hv; exact h1
    | cons h2 h3 => exact ⟨_, hv, .cons h1 (.cons h2 h3)⟩
end
end Go.V
set_option linter.unusedVariables false
set_option linter.unusedSectionVars false
namespace Go.V
open Go.Ab Go.RowKit

/-- A slice within a slice: it may be another while the rest stays. -/
theorem rep_part {w : World} {V : Value} {es : List (List T)} {F : List Nat} (h : Rep w V (.sl es) F) {k i off : Nat} {el : List T} {τ : T} (hk : ∀ e ∈ es, e.length = k) (hi : es[i]? = some el) (ho : el[off]? = some τ) {g b0 n cap : Nat} (hV : V = .slice (some ⟨g, b0, none⟩) n cap) {v : Value} (hv : w.cell? ⟨g, b0 + (i * k + off), none⟩ = some v) :
    ∃ F1 G F3, F = g :: (F1 ++ (G ++ F3)) ∧ Rep w v τ G ∧ ∀ (w' : World) (τ' : T) (G' : List Nat), Rep w' v τ' G' → (∀ b ∈ g :: (F1 ++ F3), w'.heap[b]? = w.heap[b]?) → Rep w' V (.sl (es.set i (sp el off [τ']))) (g :: (F1 ++ (G' ++ F3))) := by
  subst hV
  cases h with
  | nil hc => simp at hi
  | @cons b off' n' cap' k' es xs F' hnn hp0 hk0 hk' hc hm hxl hcell hr =>
    have hin : i < es.length := (List.getElem?_eq_some_iff.1 hi).1
    have hkk : k' = k := by rw [← hk' el (List.mem_of_getElem? hi), hk el (List.mem_of_getElem? hi)]
    subst hkk
    have hel : el.length = k' := hk el (List.mem_of_getElem? hi)
    have hok : off < k' := by rw [← hel]; exact (List.getElem?_eq_some_iff.1 ho).1
    have hik : i * k' + k' ≤ es.length * k' := by rw [← Nat.succ_mul]; exact Nat.mul_le_mul_right _ hin
    have hlt : i * k' + off < xs.length := by rw [hxl, ← hnn]; omega
    obtain ⟨F1, F2, F3, a1, a2, a3, a4⟩ := hr.parts (i * k' + off) 1
    have hmid : (es.flatten.drop (i * k' + off)).take 1 = [τ] := by
      have hfg := flatten_get hk hi
      have : (es.flatten)[i * k' + off]? = some τ := by
        have h5 : ((es.flatten.drop (i * k')).take k')[off]? = some τ := by rw [hfg]; exact ho
        rw [List.getElem?_take, if_pos hok, List.getElem?_drop] at h5
        exact h5
      rw [List.take_one, List.head?_drop, this]
      rfl
    have hxv : xs[i * k' + off] = v := by
      have := hcell (i * k' + off) _ (List.getElem?_eq_getElem hlt)
      rw [hv] at this
      injection this with this
      exact this.symm
    have hxm : (xs.drop (i * k' + off)).take 1 = [v] := by
      rw [List.take_one, List.head?_drop, List.getElem?_eq_getElem hlt, hxv]; rfl
    rw [hmid, hxm] at a2
    cases a2 with
    | @cons _ _ G _ _ _ p1 p2 =>
      cases p2
      refine ⟨F1, G, F3, by rw [a4]; simp, p1, fun w' τ' G' hr' hb => ?_⟩
      have hrep : RepL w' xs (sp es.flatten (i * k' + off) [τ']) (F1 ++ (G' ++ F3)) := by
        have q1 := a1.frame (w' := w') fun b hb' => hb b (by simp [hb'])
        have q3 := a3.frame (w' := w') fun b hb' => hb b (by simp [hb'])
        have := (q1.append (RepL.cons hr' RepL.nil)).append q3
        have hxs : xs.take (i * k' + off) ++ [v] ++ xs.drop (i * k' + off + 1) = xs := by
          rw [← hxv, List.append_assoc, List.singleton_append, List.getElem_cons_drop, List.take_append_drop]
        rw [hxs] at this
        simpa [sp] using this
      refine .cons (k := k') (by simpa using hnn) hp0 hk0 (fun e he => ?_) hc hm hxl (fun j u hu => ?_) ?_
      · rcases List.mem_or_eq_of_mem_set he with he | rfl
        · exact hk e he
        · rw [sp_length (by simp; omega)]; exact hel
      · exact (World.cell?_of_block (hb g (by simp))).trans (hcell j u hu)
      · rw [flatten_set hk hin (by rw [sp_length (by simp; omega)]; exact hel), sp_sp (flatten_get hk hi).symm (by rw [flatten_length hk]; exact hik) (by simp; omega)]
        exact hrep

/-! ### what is handed over -/
section
variable {M src : Nat → Prop} {c : Cx} {ow : Nat → Option Nat} {f : F} {a : Act} {w : World}

inductive TgtR (f : F) : Nat → Ty → C → Tgt → Prop
  | whole {r k : Nat} {t : Ty} {l : List (den t)} (h : f.obj r = some (.win k t l)) : TgtR f k t (.row r) (.whole r k t l)
  | part {r k k1 i off : Nat} {t t0 T0 : Ty} {x0 : List (den t0)} {L : List (den T0)} {el : den T0} {l : List (den t)} (h : f.obj r = some (.win k1 T0 L)) (h0 : 0 < k1) (hi : L[i]? = some el) (ho : (split T0 el)[off]? = some (.v (.sl t) l)) (hk : tyLn t = k) : TgtR f k t (.sub r k1 i off t0 x0) (.part r k1 i off T0 L el t l)
inductive TgtsR (f : F) : List (Nat × OT) → List (Nat × C) → List Tgt → Prop
  | nil : TgtsR f [] [] []
  | cons {p k : Nat} {t : Ty} {y : C} {x : Tgt} {hs : List (Nat × OT)} {cs : List (Nat × C)} {xs : List Tgt} (h : TgtR f k t y x) (hs' : TgtsR f hs cs xs) : TgtsR f ((p, .win k t) :: hs) ((p, y) :: cs) (x :: xs)

theorem evTgt_some {R : Type} {k : Nat} {t : Ty} {K : Tgt → Option R} {y : C} {r : R} (h : evTgt f k t K y = some r) : ∃ x, TgtR f k t y x ∧ K x = some r := by
  unfold evTgt at h
  split at h
  · split at h
    · rename_i hob
      split at h
      · rename_i hc
        obtain ⟨rfl, rfl⟩ := hc
        exact ⟨_, .whole hob, h⟩
      · cases h
    · cases h
  · split at h
    · rename_i hob
      split at h
      · rename_i hk
        obtain ⟨hk, hk0⟩ := hk
        subst hk
        obtain ⟨el, hel, h'⟩ := bind_some h
        split at h'
        · rename_i t' l hsp
          split at h'
          · rename_i hc
            obtain ⟨rfl, hk⟩ := hc
            exact ⟨_, .part hob hk0 hel hsp hk, h'⟩
          · cases h'
        · cases h'
      · cases h
    · cases h
  · cases h
theorem evTgts_some {R : Type} : ∀ {hs : List (Nat × OT)} {cs : List (Nat × C)} {K : List Tgt → Option R} {r : R}, evTgts f hs cs K = some r → ∃ xs, TgtsR f hs cs xs ∧ K xs = some r
  | [], [], K, r, h => ⟨[], .nil, h⟩
  | [], _ :: _, K, r, h => by cases h
  | (p, .win k t) :: hs, (q, y) :: cs, K, r, h => by
    simp only [evTgts] at h
    split at h
    · rename_i hpq
      subst hpq
      obtain ⟨x, h1, h2⟩ := evTgt_some h
      obtain ⟨xs, h3, h4⟩ := evTgts_some h2
      exact ⟨x :: xs, .cons h1 h3, h4⟩
    · cases h
  | (p, .keep) :: _, _, K, r, h => by simp [evTgts] at h
  | (p, .box _) :: _, _, K, r, h => by simp [evTgts] at h
  | (p, .row _ _ _ _) :: _, _, K, r, h => by simp [evTgts] at h
  | (p, .win _ _) :: _, [], K, r, h => by simp [evTgts] at h

theorem tyLen_pos : ∀ t : Ty, 0 < tyLen t
  | .pair a b => by have := tyLen_pos a; simp only [tyLen]; omega
  | .int _ => Nat.zero_lt_one
  | .bool => Nat.zero_lt_one
  | .str => Nat.zero_lt_one
  | .sl _ => Nat.zero_lt_one
theorem tyLn_eq' : ∀ t : Ty, tyLn t = tyLen t
  | .pair a b => by simp [tyLn, tyLen, tyLn_eq' a, tyLn_eq' b]
  | .int _ => rfl
  | .bool => rfl
  | .str => rfl
  | .sl _ => rfl

/-- What holds of a window that is handed over, its value v and blocks G. -/
structure TgtOk (M : Nat → Prop) (c : Cx) (ow : Nat → Option Nat) (f : F) (w : World) (k : Nat) (t : Ty) (x : Tgt) (v : Value) (G : List Nat) : Prop where
  kt : 0 < k ∧ tyLen t = k
  tv : ∃ l, x.tv = ⟨.sl t, l⟩ ∧ Rep w v (leafT (.sl t) l) G
  nodup : G.Nodup
  own : ∀ b ∈ G, M b ∧ ow b = some x.root ∧ Unf w b
  here : ∃ k T L, f.obj x.root = some (.win k T L)
  back : ∀ (w' : World) (G' : List Nat) (k' : Nat) (t' : Ty) (l' : List (den t')) (f1 g : F), Rep w' v (leafT (.sl t') l') G' → G'.Nodup → x.upd f1 (.win k' t' l') = some g → (∀ b, b < w.heap.size → ow b = some x.root → b ∉ G → w'.heap[b]? = w.heap[b]?) → (∀ b ∈ G', b < w.heap.size → ow b = some x.root → b ∈ G) →
    ∃ k T L Gr, g = f1.setOb x.root (.win k T L) ∧ 0 < k ∧ tyLen T = k ∧ Rep w' (c.rv x.root) (leafT (.sl T) L) Gr ∧ Gr.Nodup ∧ ∀ b ∈ Gr, (b < w.heap.size ∧ ow b = some x.root ∧ b ∉ G ∧ M b ∧ Unf w b) ∨ b ∈ G'

theorem set_get {α : Type} {l : List α} {i : Nat} {x : α} (h : l[i]? = some x) : i < l.length := (List.getElem?_eq_some_iff.1 h).1

theorem tgt_ok (h : SimC M src c ow f a w) {k : Nat} {t : Ty} {y : C} {x : Tgt} (hx : TgtR f k t y x) {v : Value} (hv : RelC c ow w (okB src c ow f.ob) v y) : ∃ G, TgtOk M c ow f w k t x v G := by
  cases hx with
  | @whole r k t l hob =>
    have hv : v = c.rv r := hv
    subst hv
    obtain ⟨h0, h1, G, h2, h3, h4⟩ := (h.obj hob : WinOk M c ow w r k t l)
    refine ⟨G, ⟨h0, h1⟩, ⟨l, rfl, h2⟩, h3, h4, ⟨_, _, _, hob⟩, fun w' G' k' t' l' f1 g hr hn hu hb hG => ?_⟩
    simp only [Tgt.upd] at hu
    split at hu
    · obtain ⟨z, hz, rfl⟩ := Option.map_eq_some_iff.1 hu
      obtain ⟨e, hz⟩ := castTy_some hz
      injection e with e
      subst e
      have hz : l' = z := hz
      subst hz
      exact ⟨k, _, _, G', rfl, h0, h1, hr, hn, fun b hb => .inr hb⟩
    · cases hu
  | @part r k k1 i off t t0 T0 x0 L el l hob hpos hi ho hk =>
    obtain ⟨g, b0, n, cap, hrv, ⟨v0, hcell, _, hex⟩, _⟩ := hv
    have hex := hex hpos
    subst hex
    obtain ⟨h0, h1, Gr, h2, h3, h4⟩ := (h.obj hob : WinOk M c ow w r k1 T0 L)
    have hkk : ∀ e ∈ L.map (cells T0), e.length = k1 := fun e he => by obtain ⟨e', _, rfl⟩ := List.mem_map.1 he; rw [cells_len, h1]
    have hel : (L.map (cells T0))[i]? = some (cells T0 el) := by simp [hi]
    obtain ⟨hcl, _⟩ := split_get T0 el ho
    obtain ⟨F1, G, F3, e1, p1, p2⟩ := rep_part (h2 : Rep w (c.rv r) (.sl (L.map (cells T0))) Gr) hkk hel hcl hrv hcell
    have hsub : ∀ b ∈ G, b ∈ Gr := fun b hb => by rw [e1]; simp [hb]
    have hnd : (g :: (F1 ++ (G ++ F3))).Nodup := by rw [← e1]; exact h3
    have hndG : G.Nodup := (List.nodup_append.1 (List.nodup_append.1 (List.nodup_cons.1 hnd).2).2.1).1
    have hoff : ∀ b, b ∈ g :: (F1 ++ F3) → b ∈ Gr ∧ b ∉ G := by
      intro b hb
      rw [e1]
      simp only [List.nodup_cons, List.nodup_append, List.mem_append, not_or] at hnd
      obtain ⟨⟨n1, n2, n3⟩, n4, ⟨n5, n6, n7⟩, n8⟩ := hnd
      simp only [List.mem_cons, List.mem_append] at hb ⊢
      rcases hb with rfl | hb | hb
      · exact ⟨.inl rfl, n2⟩
      · exact ⟨.inr (.inl hb), fun hG => n8 b hb b (.inl hG) rfl⟩
      · exact ⟨.inr (.inr (.inr hb)), fun hG => n7 b hG b hb rfl⟩
    refine ⟨G, ⟨by rw [← hk, tyLn_eq']; exact tyLen_pos t, by rw [← hk, tyLn_eq']⟩, ⟨l, rfl, p1⟩, hndG, fun b hb => h4 b (hsub b hb), ⟨_, _, _, hob⟩, fun w' G' k' t' l' f1 g' hr hn hu hb hG => ?_⟩
    simp only [Tgt.upd] at hu
    split at hu
    · rename_i el' hd
      injection hu with hu
      subst hu
      have hlt : off < k1 := by
        have := set_get hcl
        rw [cells_len, h1] at this
        exact this
      obtain ⟨ts, hts, hzz⟩ := dataL_sp (f := F0) (by simp; rw [h1]; exact hlt) hd
      cases hts with
      | @cons _ τ _ _ hτ hnil =>
        cases hnil
        have hτe := DT_v hτ
        subst hτe
        have hstay : ∀ b ∈ g :: (F1 ++ F3), w'.heap[b]? = w.heap[b]? := fun b hb' => by
          obtain ⟨q1, q2⟩ := hoff b hb'
          obtain ⟨q3, q4, q5⟩ := h4 b q1
          exact hb b q5.lt q4 q2
        have hrep := p2 w' _ G' hr hstay
        refine ⟨k1, T0, L.set i el', g :: (F1 ++ (G' ++ F3)), rfl, h0, h1, ?_, ?_, fun b hb' => ?_⟩
        · simp only [leafT]
          rw [leafT_map, hzz]
          exact hrep
        · have hdis : ∀ b ∈ G', b ∉ g :: (F1 ++ F3) := fun b hb' hm => by
            obtain ⟨q1, q2⟩ := hoff b hm
            obtain ⟨q3, q4, q5⟩ := h4 b q1
            exact q2 (hG b hb' q5.lt q4)
          simp only [List.nodup_cons, List.nodup_append, List.mem_append, not_or] at hnd ⊢
          obtain ⟨⟨n1, n2, n3⟩, n4, ⟨n5, n6, n7⟩, n8⟩ := hnd
          refine ⟨⟨n1, fun hm => hdis g hm (List.mem_cons_self ..), n3⟩, n4, ⟨hn, n6, fun x hx y hy e => ?_⟩, fun x hx y hy e => ?_⟩
          · subst e; exact hdis x hx (by simp [hy])
          · subst e
            rcases hy with hy | hy
            · exact hdis x hy (by simp [hx])
            · exact n8 x hx x (.inr hy) rfl
        · have : b ∈ g :: (F1 ++ F3) ∨ b ∈ G' := by
            simp only [List.mem_cons, List.mem_append] at hb' ⊢
            rcases hb' with h | h | h | h
            · exact .inl (.inl h)
            · exact .inl (.inr (.inl h))
            · exact .inr h
            · exact .inl (.inr (.inr h))
          rcases this with h | h
          · obtain ⟨q1, q2⟩ := hoff b h
            obtain ⟨q3, q4, q5⟩ := h4 b q1
            exact .inl ⟨q5.lt, q4, q2, q3, q5⟩
          · exact .inr h
    · cases hu

/-- The value of a cell that is handed over as a window is one. -/
theorem tgt_val {ok : Nat → Prop} {k : Nat} {t : Ty} {y : C} {x : Tgt} (hx : TgtR f k t y x) {v v' : Value} (hv : RelC c ow w ok v y) (hv' : RelC c ow w ok v' y) : v = v' := by
  cases hx with
  | whole hob => exact Eq.trans hv (Eq.symm hv')
  | part hob hpos hi ho hk =>
    obtain ⟨g, b0, n, cap, h1, ⟨v0, h2, _, hex⟩, _⟩ := hv
    obtain ⟨g', b0', n', cap', h1', ⟨v0', h2', _, hex'⟩, _⟩ := hv'
    have hex := hex hpos
    have hex' := hex' hpos
    subst hex hex'
    rw [h1] at h1'
    injection h1' with e1 e2 e3
    injection e1 with e1
    injection e1 with e1 e0 _
    subst e1 e0
    rw [h2] at h2'
    injection h2'

/-! ### arguments -/
def ArgWC (f : F) (ps : List (Nat × C)) (d x : C) : Prop := (∃ (t : Ty) (y : den t), d = .v t y ∧ flat t = true ∧ f.data t x = some y) ∨ ∃ p, d = .row p ∧ (p, x) ∈ ps
theorem ArgWC.mono {ps qs : List (Nat × C)} {d x : C} (h : ArgWC f ps d x) (hs : ∀ e ∈ ps, e ∈ qs) : ArgWC f qs d x := by
  rcases h with h | ⟨p, h1, h2⟩
  · exact .inl h
  · exact .inr ⟨p, h1, hs _ h2⟩
theorem argWC_inj {ct : CT} {x : C} {tvs : List TV} {ps : List (Nat × C)} (h : argWC f ct x = some (tvs, ps)) (rest : List TV) : ∃ d, ct.inj (tvs ++ rest) = some (d, rest) ∧ ArgWC f ps d x := by
  cases ct with
  | var t =>
    simp only [argWC] at h
    split at h
    · rename_i hfl
      obtain ⟨y, hy, he⟩ := Option.map_eq_some_iff.1 h
      injection he with e1 e2
      subst e1 e2
      exact ⟨.v t y, by show (castTy t t y).map _ = _; rw [castTy_self]; rfl, .inl ⟨t, y, rfl, hfl, hy⟩⟩
    · cases h
  | row p =>
    injection h with h
    injection h with e1 e2
    subst e1 e2
    exact ⟨.row p, rfl, .inr ⟨p, rfl, List.mem_singleton.2 rfl⟩⟩
  | _ => cases h
theorem argWL_inj : ∀ {cts : List CT} {cs : List C} {tvs : List TV} {ps : List (Nat × C)}, argWL f cts cs = some (tvs, ps) → ∀ rest, ∃ ds, injL cts (tvs ++ rest) = some (ds, rest) ∧ All2 (ArgWC f ps) ds cs
  | [], [], tvs, ps, h, rest => by injection h with h; injection h with e1 e2; subst e1 e2; exact ⟨[], rfl, .nil⟩
  | [], _ :: _, tvs, ps, h, rest => by cases h
  | _ :: _, [], tvs, ps, h, rest => by cases h
  | ct :: cts, x :: xs, tvs, ps, h, rest => by
    simp only [argWL] at h
    split at h
    · rename_i a p b q h1 h2
      injection h with h
      injection h with e1 e2
      subst e1 e2
      obtain ⟨ds, g1, g2⟩ := argWL_inj h2 rest
      obtain ⟨d, g3, g4⟩ := argWC_inj h1 (b ++ rest)
      refine ⟨d :: ds, ?_, .cons (g4.mono fun e he => List.mem_append_left _ he) (g2.mono fun d x _ hr => hr.mono fun e he => List.mem_append_right _ he)⟩
      rw [List.append_assoc]
      simp [injL, g3, g1]
    · cases h
def ArgWA (f : F) (ps : List (Nat × C)) : A → A → Prop
  | .one d, .one x => ArgWC f ps d x
  | .agg ds, .agg xs => All2 (ArgWC f ps) ds xs
  | _, _ => False
theorem ArgWA.mono {ps qs : List (Nat × C)} {d x : A} (h : ArgWA f ps d x) (hs : ∀ e ∈ ps, e ∈ qs) : ArgWA f qs d x := by
  cases d with
  | one d => cases x with
    | one x => exact ArgWC.mono h hs
    | agg x => exact h
  | agg d => cases x with
    | one x => exact h
    | agg x => exact All2.mono h fun _ _ _ hr => ArgWC.mono hr hs
inductive ArgsWR (f : F) (ps : List (Nat × C)) : Nat → List (Nat × Nat × S) → List Operand → Prop
  | nil {i : Nat} : ArgsWR f ps i [] []
  | cons {i : Nat} {d y : A} {x : Operand} {fr : List (Nat × Nat × S)} {xs : List Operand} (hx : f.get x = some (.val y)) (h : ArgWA f ps d y) (hs : ArgsWR f ps (i + 1) fr xs) : ArgsWR f ps i ((i, 0, .val d) :: fr) (x :: xs)
theorem ArgsWR.mono {ps qs : List (Nat × C)} (hs : ∀ e ∈ ps, e ∈ qs) {i : Nat} {fr : List (Nat × Nat × S)} {xs : List Operand} (h : ArgsWR f ps i fr xs) : ArgsWR f qs i fr xs := by
  induction h with
  | nil => exact .nil
  | cons hx h _ ih => exact .cons hx (h.mono hs) ih
theorem ArgsWR.mem {ps : List (Nat × C)} {i : Nat} {fr : List (Nat × Nat × S)} {xs : List Operand} (h : ArgsWR f ps i fr xs) : ∀ e ∈ fr, ∃ j x d y, e.1 = i + j ∧ xs[j]? = some x ∧ f.get x = some (.val y) ∧ e.2.2 = .val d ∧ ArgWA f ps d y := by
  induction h with
  | nil => intro e he; cases he
  | cons hx ha hs ih =>
    intro e he
    rcases List.mem_cons.1 he with rfl | he
    · exact ⟨0, _, _, _, rfl, rfl, hx, rfl, ha⟩
    · obtain ⟨j, x, d, y, h1, h2, h3⟩ := ih e he
      exact ⟨j + 1, x, d, y, by omega, by simpa using h2, h3⟩
theorem ArgsWR.length {ps : List (Nat × C)} {i : Nat} {fr : List (Nat × Nat × S)} {xs : List Operand} (h : ArgsWR f ps i fr xs) : fr.length = xs.length := by
  induction h with
  | nil => rfl
  | cons _ _ _ ih => simp [ih]
/-- Each pair that is gathered is a cell of an argument. -/
def PsOf (f : F) (ps : List (Nat × C)) (xs : List Operand) : Prop := ∀ e ∈ ps, ∃ x y, x ∈ xs ∧ f.get x = some (.val y) ∧ e.2 ∈ y.cells
theorem argWC_ps {ct : CT} {x : C} {tvs : List TV} {ps : List (Nat × C)} (h : argWC f ct x = some (tvs, ps)) : ∀ e ∈ ps, e.2 = x := by
  cases ct with
  | var t =>
    simp only [argWC] at h
    split at h
    · obtain ⟨y, hy, he⟩ := Option.map_eq_some_iff.1 h
      injection he with e1 e2
      subst e2
      intro e he; cases he
    · cases h
  | row p =>
    injection h with h
    injection h with e1 e2
    subst e2
    intro e he
    rw [List.mem_singleton.1 he]
  | _ => cases h
theorem argWL_ps : ∀ {cts : List CT} {cs : List C} {tvs : List TV} {ps : List (Nat × C)}, argWL f cts cs = some (tvs, ps) → ∀ e ∈ ps, e.2 ∈ cs
  | [], [], tvs, ps, h => by injection h with h; injection h with e1 e2; subst e2; intro e he; cases he
  | [], _ :: _, tvs, ps, h => by cases h
  | _ :: _, [], tvs, ps, h => by cases h
  | ct :: cts, x :: xs, tvs, ps, h => by
    simp only [argWL] at h
    split at h
    · rename_i a p b q h1 h2
      injection h with h
      injection h with e1 e2
      subst e2
      intro e he
      rcases List.mem_append.1 he with he | he
      · rw [argWC_ps h1 e he]; exact List.mem_cons_self ..
      · exact List.mem_cons_of_mem _ (argWL_ps h2 e he)
    · cases h
theorem argsW_inj : ∀ {i : Nat} {hs : List (Nat × ST)} {xs : List Operand} {tvs : List TV} {ps : List (Nat × C)}, argsW f i hs xs = some (tvs, ps) → ∀ rest, ∃ fr, injFr F0 hs (tvs ++ rest) = some (fr, rest) ∧ ArgsWR f ps i fr xs ∧ PsOf f ps xs
  | i, [], [], tvs, ps, h, rest => by injection h with h; injection h with e1 e2; subst e1 e2; exact ⟨[], rfl, .nil, fun e he => by cases he⟩
  | i, [], _ :: _, tvs, ps, h, rest => by cases h
  | i, _ :: _, [], tvs, ps, h, rest => by cases h
  | i, (j, st) :: hs, x :: xs, tvs, ps, h, rest => by
    simp only [argsW] at h
    split at h
    · rename_i hij
      subst hij
      split at h
      · rename_i a p b q h1 h2
        injection h with h
        injection h with e1 e2
        subst e1 e2
        obtain ⟨fr, g1, g2, g5⟩ := argsW_inj h2 rest
        have g2' := g2.mono (qs := p ++ q) fun e he => List.mem_append_right _ he
        have hps : (∀ y, f.get x = some (.val y) → (∀ e ∈ p, e.2 ∈ y.cells) → PsOf f (p ++ q) (x :: xs)) := fun y hg hy e he => by
          rcases List.mem_append.1 he with he | he
          · exact ⟨x, y, List.mem_cons_self .., hg, hy e he⟩
          · obtain ⟨z, u, k1, k2, k3⟩ := g5 e he
            exact ⟨z, u, List.mem_cons_of_mem _ k1, k2, k3⟩
        unfold argWS at h1
        split at h1
        · rename_i ct y hg
          obtain ⟨d, g3, g4⟩ := argWC_inj h1 (b ++ rest)
          refine ⟨(i, 0, .val (.one d)) :: fr, ?_, .cons hg (show ArgWC f _ d y from g4.mono fun e he => List.mem_append_left _ he) g2', hps _ hg fun e he => by rw [argWC_ps h1 e he]; exact List.mem_singleton.2 rfl⟩
          rw [List.append_assoc, injFr, g3]
          simp only [g1]
          rfl
        · rename_i cts ys hg
          obtain ⟨ds, g3, g4⟩ := argWL_inj h1 (b ++ rest)
          refine ⟨(i, 0, .val (.agg ds)) :: fr, ?_, .cons hg (show All2 (ArgWC f _) ds ys from g4.mono fun _ _ _ hr => hr.mono fun e he => List.mem_append_left _ he) g2', hps _ hg fun e he => argWL_ps h1 e he⟩
          rw [List.append_assoc, injFr, g3]
          simp only [g1]
          rfl
        · cases h1
      · cases h
    · cases h
end
end Go.V
set_option linter.unusedVariables false
set_option linter.unusedSectionVars false
namespace Go.V
open Go.Ab Go.RowKit

inductive InfoR (M : Nat → Prop) (c : Cx) (ow : Nat → Option Nat) (f : F) (w : World) (ok : Nat → Prop) : List (Nat × OT) → List (Nat × C) → List Tgt → List (Nat × Value × List Nat) → Prop
  | nil : InfoR M c ow f w ok [] [] [] []
  | cons {p k : Nat} {t : Ty} {y : C} {x : Tgt} {v : Value} {G : List Nat} {hs : List (Nat × OT)} {cs : List (Nat × C)} {xs : List Tgt} {is : List (Nat × Value × List Nat)} (h : TgtOk M c ow f w k t x v G) (hv : ∀ v', RelC c ow w ok v' y → v' = v) (hs' : InfoR M c ow f w ok hs cs xs is) : InfoR M c ow f w ok ((p, .win k t) :: hs) ((p, y) :: cs) (x :: xs) ((p, v, G) :: is)

section
variable {M src : Nat → Prop} {c : Cx} {ow : Nat → Option Nat} {f : F} {a : Act} {w : World} {ok : Nat → Prop}
theorem info_of (h : SimC M src c ow f a w) {hs : List (Nat × OT)} {ps : List (Nat × C)} {ts : List Tgt} (ht : TgtsR f hs ps ts) (hp : ∀ e ∈ ps, ∃ v, RelC c ow w (okB src c ow f.ob) v e.2) : ∃ is, InfoR M c ow f w (okB src c ow f.ob) hs ps ts is := by
  induction ht with
  | nil => exact ⟨[], .nil⟩
  | cons h1 _ ih =>
    obtain ⟨is, h2⟩ := ih fun e he => hp e (List.mem_cons_of_mem _ he)
    obtain ⟨v, hv⟩ := hp _ (List.mem_cons_self ..)
    obtain ⟨G, hG⟩ := tgt_ok h h1 hv
    exact ⟨_, .cons hG (fun v' hv' => tgt_val h1 hv' hv) h2⟩
variable {hs : List (Nat × OT)} {ps : List (Nat × C)} {ts : List Tgt} {is : List (Nat × Value × List Nat)}
theorem InfoR.ids (h : InfoR M c ow f w ok hs ps ts is) : is.map (·.1) = ps.map (·.1) := by
  induction h with
  | nil => rfl
  | cons _ _ _ ih => simp [ih]
theorem InfoR.root (h : InfoR M c ow f w ok hs ps ts is) : ∀ e ∈ is, ∃ x, x ∈ ts ∧ ∀ b ∈ e.2.2, M b ∧ ow b = some x.root ∧ Unf w b := by
  induction h with
  | nil => intro e he; cases he
  | cons h _ _ ih =>
    intro e he
    rcases List.mem_cons.1 he with rfl | he
    · exact ⟨_, List.mem_cons_self .., h.own⟩
    · obtain ⟨x, h1, h2⟩ := ih e he
      exact ⟨x, List.mem_cons_of_mem _ h1, h2⟩
theorem InfoR.val (h : InfoR M c ow f w ok hs ps ts is) : ∀ e ∈ ps, ∃ i ∈ is, i.1 = e.1 ∧ ∀ v, RelC c ow w ok v e.2 → v = i.2.1 := by
  induction h with
  | nil => intro e he; cases he
  | cons h hv _ ih =>
    intro e he
    rcases List.mem_cons.1 he with rfl | he
    · exact ⟨_, List.mem_cons_self .., rfl, hv⟩
    · obtain ⟨i, h1, h2⟩ := ih e he
      exact ⟨i, List.mem_cons_of_mem _ h1, h2⟩
theorem InfoR.sl (h : InfoR M c ow f w ok hs ps ts is) : ∀ e ∈ is, ∃ ad n k, e.2.1 = .slice ad n k := by
  induction h with
  | nil => intro e he; cases he
  | cons h hv _ ih =>
    intro e he
    rcases List.mem_cons.1 he with rfl | he
    · obtain ⟨l, _, hr⟩ := h.tv
      obtain ⟨ad, cap, hx, _⟩ := Rep.len hr
      exact ⟨ad, _, cap, hx⟩
    · exact ih e he
theorem InfoR.obs (h : InfoR M c ow f w ok hs ps ts is) (rest : List TV) : ∃ ob, injOb F0 hs (ts.map Tgt.tv ++ rest) = some (ob, rest) ∧ ob.map (·.1) = ps.map (·.1) ∧ ∀ e ∈ ob, ∃ k t, ∃ l : List (den t), ∃ i ∈ is, i.1 = e.1 ∧ e.2.2 = .win k t l ∧ 0 < k ∧ tyLen t = k ∧ Rep w i.2.1 (leafT (.sl t) l) i.2.2 ∧ i.2.2.Nodup := by
  induction h with
  | nil => exact ⟨[], rfl, rfl, fun e he => by cases he⟩
  | @cons p k t y x v G hs cs xs is h hv _ ih =>
    obtain ⟨ob, h1, h2, h3⟩ := ih
    obtain ⟨l, hl, hr⟩ := h.tv
    refine ⟨(p, 0, .win k t l) :: ob, ?_, by simp [h2], fun e he => ?_⟩
    · rw [List.map_cons, hl]
      show (match castTy (.sl t) (.sl t) l, injOb F0 hs (xs.map Tgt.tv ++ rest) with
        | some l, some (r, zs) => some ((p, F0.ctr, O.win k t l) :: r, zs)
        | _, _ => none) = _
      rw [castTy_self, h1]
      rfl
    · rcases List.mem_cons.1 he with rfl | he
      · exact ⟨k, t, l, _, List.mem_cons_self .., rfl, rfl, h.kt.1, h.kt.2, hr, h.nodup⟩
      · obtain ⟨k, t, l, i, k1, k2⟩ := h3 e he
        exact ⟨k, t, l, i, List.mem_cons_of_mem _ k1, k2⟩
theorem InfoR.zip (h : InfoR M c ow f w ok hs ps ts is) : ∀ q ∈ ts.zip is, ∃ k t, TgtOk M c ow f w k t q.1 q.2.2.1 q.2.2.2 := by
  induction h with
  | nil => intro q hq; cases hq
  | cons h hv _ ih =>
    intro q hq
    rcases List.mem_cons.1 hq with rfl | hq
    · exact ⟨_, _, h⟩
    · exact ih q hq
theorem InfoR.of_zip (h : InfoR M c ow f w ok hs ps ts is) : ∀ e ∈ is, ∃ x, (x, e) ∈ ts.zip is := by
  induction h with
  | nil => intro e he; cases he
  | cons h hv _ ih =>
    intro e he
    rcases List.mem_cons.1 he with rfl | he
    · exact ⟨_, List.mem_cons_self ..⟩
    · obtain ⟨x, hx⟩ := ih e he
      exact ⟨x, List.mem_cons_of_mem _ hx⟩
/-- One block lies in the blocks of one window alone. -/
theorem InfoR.one (h : InfoR M c ow f w ok hs ps ts is) (hn : (ts.map Tgt.root).Nodup) : ∀ q ∈ ts.zip is, ∀ e ∈ is, ∀ b, b ∈ e.2.2 → ow b = some q.1.root → e = q.2 := by
  induction h with
  | nil => intro q hq; cases hq
  | @cons p k t y x v G hs cs xs is h hv hr ih =>
    simp only [List.map_cons, List.nodup_cons] at hn
    intro q hq e he b hb ho
    rcases List.mem_cons.1 hq with rfl | hq
    · rcases List.mem_cons.1 he with rfl | he
      · rfl
      · obtain ⟨x', h1, h2⟩ := hr.root e he
        have := (h2 b hb).2.1
        rw [ho] at this
        injection this with this
        exact absurd (List.mem_map.2 ⟨x', h1, this.symm⟩) hn.1
    · rcases List.mem_cons.1 he with rfl | he
      · have := (h.own b hb).2.1
        rw [ho] at this
        injection this with this
        exact absurd (List.mem_map.2 ⟨q.1, (List.of_mem_zip hq).1, this⟩) hn.1
      · exact ih hn.2 q hq e he b hb ho
theorem find_fst_nodup {α : Type} {l : List (Nat × α)} (hn : (l.map (·.1)).Nodup) {e : Nat × α} (he : e ∈ l) : l.find? (fun x => x.1 == e.1) = some e := by
  induction l with
  | nil => cases he
  | cons x xs ih =>
    simp only [List.map_cons, List.nodup_cons] at hn
    rcases List.mem_cons.1 he with rfl | he
    · simp
    · have : x.1 ≠ e.1 := fun h => hn.1 (List.mem_map.2 ⟨e, he, h.symm⟩)
      rw [List.find?_cons_of_neg (by simpa using this)]
      exact ih hn.2 he
theorem setOb_uniq {f : F} (h : f.uniq) (i : Nat) (x : O) : (f.setOb i x).uniq := by
  intro o n y m z hy hz
  rcases mem_setOb hy with ⟨hne, hy⟩ | ⟨e1, rfl⟩
  · rcases mem_setOb hz with ⟨_, hz⟩ | ⟨e2, _⟩
    · exact h _ _ _ _ _ hy hz
    · exact absurd e2 hne
  · rcases mem_setOb hz with ⟨hne, _⟩ | ⟨_, rfl⟩
    · exact absurd e1 hne
    · rfl
/-- What is handed back. -/
theorem updAll_ob {Q : Nat → O → Prop} : ∀ {ts : List Tgt} {es : List (Nat × Nat × O)} {f1 g : F}, updAll f1 ts es = some g → (∀ q ∈ ts.zip es, ∀ f1 g, q.1.upd f1 q.2.2.2 = some g → ∃ y, g = f1.setOb q.1.root y ∧ Q q.1.root y) →
    g.fr = f1.fr ∧ Ext f1 g ∧ (f1.uniq → g.uniq) ∧ ∀ o n y, (o, n, y) ∈ g.ob → ((o, n, y) ∈ f1.ob ∧ o ∉ ts.map Tgt.root) ∨ Q o y
  | [], [], f1, g, h, hq => by injection h with h; subst h; exact ⟨rfl, .refl _, id, fun o n y hm => .inl ⟨hm, by simp⟩⟩
  | [], _ :: _, f1, g, h, hq => by cases h
  | _ :: _, [], f1, g, h, hq => by cases h
  | x :: xs, e :: es, f1, g, h, hq => by
    simp only [updAll] at h
    split at h
    · rename_i f2 h2
      obtain ⟨y, rfl, hQ⟩ := hq _ (List.mem_cons_self ..) f1 f2 h2
      obtain ⟨i1, i2, i3, i4⟩ := updAll_ob h fun q hq' => hq q (List.mem_cons_of_mem _ hq')
      refine ⟨i1, (Ext.setOb _ _ _).trans i2, fun hu => i3 (setOb_uniq hu _ _), fun o n z hm => ?_⟩
      rcases i4 o n z hm with ⟨h3, h4⟩ | h3
      · rcases mem_setOb h3 with ⟨hne, h5⟩ | ⟨rfl, rfl⟩
        · exact .inl ⟨h5, by simp only [List.map_cons, List.mem_cons, not_or]; exact ⟨hne, h4⟩⟩
        · exact .inr hQ
      · exact .inr h3
    · cases h
theorem zip3 {α β γ : Type} {ka : β → Nat} {kb : γ → Nat} : ∀ {ts : List α} {is : List β} {es : List γ}, is.map ka = es.map kb → ∀ q ∈ ts.zip es, ∃ i, (q.1, i) ∈ ts.zip is ∧ ka i = kb q.2
  | [], is, es, h, q, hq => by cases hq
  | _ :: _, is, [], h, q, hq => by cases hq
  | _ :: _, [], _ :: _, h, q, hq => by cases h
  | t :: ts, i :: is, e :: es, h, q, hq => by
    simp only [List.map_cons, List.cons.injEq] at h
    rcases List.mem_cons.1 hq with rfl | hq
    · exact ⟨i, List.mem_cons_self .., h.1⟩
    · obtain ⟨j, h1, h2⟩ := zip3 h.2 q hq
      exact ⟨j, List.mem_cons_of_mem _ h1, h2⟩
end

section
variable {X : Ctx} {E : List Con} {f : F} {a : Act} {w : World} {o : Oper} {R : Type} {K : F → Option R} {r : R}
theorem okPostW_iff {p : F} (h : okPostW p = true) : p.fr.map (·.1) = List.range p.fr.length ∧ ∀ e ∈ p.fr, okS false [] e.2.2 = true := by
  simp only [okPostW, Bool.and_eq_true, beq_iff_eq, List.all_eq_true] at h
  exact h
theorem flatA {c c' : Cx} {ow ow' : Nat → Option Nat} {w : World} {ok ok' : Nat → Prop} {v : Value} {x : A} (hx : okA false [] x = true) (h : RelA c ow w ok v x) : RelA c' ow' w ok' v x := by
  have hC : ∀ (v : Value) (x : C), okC false [] x = true → RelC c ow w ok v x → RelC c' ow' w ok' v x := by
    intro v x hx hr
    cases x with
    | v t y =>
      obtain ⟨G, g1, g2⟩ := hr
      obtain ⟨rfl, _⟩ := flat_lit g1 (by simpa [okC] using hx)
      exact ⟨[], g1, by simp⟩
    | row r => simp [okC] at hx
    | _ => cases hx
  cases x with
  | one y => exact hC v y hx h
  | agg ys =>
    obtain ⟨vs, rfl, ha⟩ := h
    simp only [okA, List.all_eq_true] at hx
    exact ⟨vs, rfl, ha.mono fun u z hz hr => hC u z (hx z hz) hr⟩

theorem callW_goes (h : At X f a w) {c : Con} (hc : c.Ok X.P) {cl : Call} (hop : o.op = .call cl) (hcal : cl.callee = .value (.func c.f)) (hd : inFrame X.n o.dst = true) (hwr : writes E o.op = true) (hv : evCallW c f o.dst cl.args.toList K = some r) : Goes X E o a w f K r := by
  classical
  unfold evCallW at hv
  split at hv
  · rename_i d hdst
    split at hv
    · rename_i tvs ps hargs
      split at hv
      · rename_i hnp
        obtain ⟨hnd, hpinned⟩ := hnp
        have hnd := nodupB_sound hnd
        obtain ⟨ts, hts, hv⟩ := evTgts_some hv
        split at hv
        · rename_i hroots
          have hroots := nodupB_sound hroots
          obtain ⟨x0, hx0, hv⟩ := kOpt_some hv
          obtain ⟨p0, hp0, hv⟩ := kOpt_some hv
          obtain ⟨y0, hy0, hv⟩ := bind_some hv
          obtain ⟨p, hp, hv⟩ := kOpt_some hv
          split at hv
          · rename_i hpost
            obtain ⟨hpid, hpost⟩ := hpost
            obtain ⟨g, hg, hv⟩ := kOpt_some hv
            obtain ⟨⟨cx, ow0, hs0, hpin⟩, hb, hn⟩ := id h
            have hs := hs0.trim
            generalize hows : (fun b => if b < w.heap.size then ow0 b else none) = ow at hs
            have hown : ∀ b, w.heap.size ≤ b → ow b = none := fun b hb' => by rw [← hows]; exact if_neg (by omega)
            obtain ⟨fr, hfr, hargR, hps⟩ := argsW_inj hargs (ts.map Tgt.tv)
            obtain ⟨is, hI⟩ := info_of hs hts fun e he => by
              obtain ⟨z, y, k1, k2, k3⟩ := hps e he
              have hr : RelA cx ow w (okB X.src cx ow f.ob) (a.eval z) y := hs.get k2
              cases y with
              | one y => rw [List.mem_singleton.1 k3]; exact ⟨_, hr⟩
              | agg ys =>
                obtain ⟨vs, _, hall⟩ := hr
                obtain ⟨j, hj⟩ := List.getElem?_of_mem k3
                obtain ⟨u, _, hu⟩ := hall.get hj
                exact ⟨u, hu⟩
            have hids := hI.ids
            have hisnd : (is.map (·.1)).Nodup := by rw [hids]; exact hnd
            obtain ⟨ob, hob, hobid, hobw⟩ := hI.obs []
            have hp0' : p0 = ⟨1, fr, ob⟩ := by
              unfold F.inj at hp0
              rw [ofTVs_to hx0, hfr] at hp0
              simp only at hp0
              rw [List.append_nil] at hob
              rw [hob] at hp0
              injection hp0 with hp0
              exact hp0.symm
            subst hp0'
            obtain ⟨hent, hmeet⟩ := hc x0 y0 _ p hy0 (by assumption) hp
            let rvP : Nat → Value := fun p => ((is.find? fun e => e.1 == p).map (·.2.1)).getD (.slice none 0 0)
            let owP : Nat → Option Nat := fun b => if hx : ∃ e ∈ is, b ∈ e.2.2 then some hx.choose.1 else none
            let M' : Nat → Prop := fun b => w.heap.size ≤ b ∨ ∃ e ∈ is, b ∈ e.2.2
            have hrvP : ∀ e ∈ is, rvP e.1 = e.2.1 := fun e he => by
              show ((is.find? fun x => x.1 == e.1).map (·.2.1)).getD _ = _
              rw [find_fst_nodup hisnd he]; rfl
            have hone : ∀ e ∈ is, ∀ e' ∈ is, ∀ b, b ∈ e.2.2 → b ∈ e'.2.2 → e = e' := fun e he e' he' b hb1 hb2 => by
              obtain ⟨x, hx⟩ := hI.of_zip e' he'
              obtain ⟨k, t, htk⟩ := hI.zip _ hx
              exact hI.one hroots _ hx e he b hb1 (htk.own b hb2).2.1
            have howP : ∀ e ∈ is, ∀ b ∈ e.2.2, owP b = some e.1 := fun e he b hb' => by
              have hx : ∃ e ∈ is, b ∈ e.2.2 := ⟨e, he, hb'⟩
              show (if hx : ∃ e ∈ is, b ∈ e.2.2 then some hx.choose.1 else none) = _
              rw [dif_pos hx]
              have := hone _ hx.choose_spec.1 e he b hx.choose_spec.2 hb'
              rw [this]
            let cP : Cx := ⟨fun _ => 0, rvP⟩
            have hunf : ∀ e ∈ is, ∀ b ∈ e.2.2, X.M b ∧ Unf w b := fun e he b hb' => by
              obtain ⟨x, _, h2⟩ := hI.root e he
              exact ⟨(h2 b hb').1, (h2 b hb').2.2⟩
            have hsim0 : SimC M' M' cP owP ⟨1, fr, ob⟩ (actL (cl.args.toList.map a.eval)) w := by
              refine ⟨rfl, fun s n x hm => ?_, fun o' n x hm => ?_, fun o' n x m y hx hy => ?_, fun q => ?_⟩
              · obtain ⟨j, op, d', y, h1, h2, h3, h4, h5⟩ := hargR.mem _ hm
                simp only [Nat.zero_add] at h1
                have h4 : x = .val d' := h4
                subst h1 h4
                have hr : RelA cx ow w (okB X.src cx ow f.ob) (a.eval op) y := hs.get h3
                have hC : ∀ (v : Value) (d' z : C), ArgWC f ps d' z → RelC cx ow w (okB X.src cx ow f.ob) v z → RelC cP owP w (okB M' cP owP ob) v d' := by
                  intro v d' z hz hvz
                  rcases hz with ⟨t, y, rfl, hfl, hdt⟩ | ⟨q, rfl, hq⟩
                  · obtain ⟨G, g1, _⟩ := data_sound hs hdt hvz
                    obtain ⟨rfl, _⟩ := flat_lit g1 hfl
                    exact ⟨[], g1, by simp⟩
                  · obtain ⟨i, hi, hie, hval⟩ := hI.val _ hq
                    have hval' := hval v hvz
                    have hie : i.1 = q := hie
                    show v = rvP q
                    rw [← hie, hrvP i hi, hval']
                refine ⟨a.eval op, by simp [actL, h2], ?_⟩
                cases d' with
                | one d' =>
                  cases y with
                  | one z => exact hC _ _ _ h5 hr
                  | agg _ => cases h5
                | agg ds =>
                  cases y with
                  | one z => cases h5
                  | agg zs =>
                    obtain ⟨vs, hvs, hall⟩ := hr
                    refine ⟨vs, hvs, ?_⟩
                    have key : ∀ {vs : List Value} {ds zs : List C}, All2 (RelC cx ow w (okB X.src cx ow f.ob)) vs zs → All2 (ArgWC f ps) ds zs → All2 (RelC cP owP w (okB M' cP owP ob)) vs ds := by
                      intro vs ds zs hv'
                      induction hv' generalizing ds with
                      | nil => intro hd'; cases hd'; exact .nil
                      | cons h1 h2 ih =>
                        intro hd'
                        cases hd' with
                        | cons k1 k2 => exact .cons (hC _ _ _ k1 h1) (ih k2)
                    exact key hall h5
              · obtain ⟨k, t, l, i, hi, hie, hwx, hk0, hkt, hrep, hndG⟩ := hobw _ hm
                have hie : i.1 = o' := hie
                have hwx : x = .win k t l := hwx
                subst hwx hie
                refine ⟨hk0, hkt, i.2.2, ?_, hndG, fun b hb' => ⟨.inr ⟨i, hi, hb'⟩, howP i hi b hb', (hunf i hi b hb').2⟩⟩
                show Rep w (rvP i.1) _ _
                rw [hrvP i hi]
                exact hrep
              · have hnob : (ob.map (·.1)).Nodup := by rw [hobid]; exact hnd
                have := find_fst_nodup hnob hx
                have h2 := find_fst_nodup hnob hy
                rw [this] at h2
                injection h2 with h2
                injection h2 with _ h2
                injection h2
              · show ∃ ad n k, rvP q = .slice ad n k
                show ∃ ad n k, ((is.find? fun e => e.1 == q).map (·.2.1)).getD (.slice none 0 0) = .slice ad n k
                cases hf : is.find? fun e => e.1 == q with
                | none => exact ⟨_, _, _, rfl⟩
                | some e => exact hI.sl e (List.mem_of_find?_eq_some hf)
            have hcall := hmeet w M' M' cP owP (cl.args.toList.map a.eval) (fun b hb' => .inl hb') (fun b hb' => hb') hsim0 (by simp [hargR.length])
            let rootOf : Nat → Option Nat := fun q => ((is.zip ts).find? fun e => e.1.1 == q).map (·.2.root)
            have hzids : ((is.zip ts).map fun e => (e.1.1, e.2)).map (·.1) = is.map (·.1) ∨ True := .inr trivial
            have hrootOf : ∀ q ∈ ts.zip is, rootOf q.2.1 = some q.1.root := by
              have key : ∀ (ts : List Tgt) (is : List (Nat × Value × List Nat)), (is.map (·.1)).Nodup → ∀ q ∈ ts.zip is, ((is.zip ts).find? fun e => e.1.1 == q.2.1).map (·.2.root) = some q.1.root := by
                intro ts
                induction ts with
                | nil => intro is _ q hq; cases hq
                | cons t ts ih =>
                  intro is hn q hq
                  cases is with
                  | nil => cases hq
                  | cons i is =>
                    simp only [List.map_cons, List.nodup_cons] at hn
                    rcases List.mem_cons.1 hq with rfl | hq
                    · simp
                    · have hne : i.1 ≠ q.2.1 := fun he => hn.1 (List.mem_map.2 ⟨q.2, (List.of_mem_zip hq).2, he.symm⟩)
                      rw [List.zip_cons_cons, List.find?_cons_of_neg (by simpa using hne)]
                      exact ih is hn.2 q hq
              exact key ts is hisnd
            let ow2 : (Nat → Option Nat) → Nat → Option Nat := fun ow1 b => if M' b then (ow1 b).bind rootOf else ow b
            have hMold : ∀ q ∈ ts.zip is, ∀ b, b < w.heap.size → ow b = some q.1.root → M' b → b ∈ q.2.2.2 := by
              intro q hq b hlt ho hm
              rcases hm with hm | ⟨e, he, hbe⟩
              · omega
              · have := hI.one hroots q hq e he b hbe ho
                rw [← this]; exact hbe
            have hMX : ∀ b, M' b → X.M b := fun b hm => by
              rcases hm with hm | ⟨e, he, hbe⟩
              · exact X.hM b (Nat.le_trans hb.size hm)
              · exact (hunf e he b hbe).1
            have hupd := updAll_ob (Q := fun _ _ => True) hg (fun q hq f1 g1 hu => by
              obtain ⟨t1, e1, n1, y1⟩ := q
              cases t1 with
              | whole r k t l =>
                cases y1 with
                | win k' t' l' =>
                  simp only [Tgt.upd] at hu
                  split at hu
                  · obtain ⟨z, hz, rfl⟩ := Option.map_eq_some_iff.1 hu
                    exact ⟨_, rfl, trivial⟩
                  · cases hu
                | _ => cases hu
              | part r k i off T0 L el t l =>
                cases y1 with
                | win k' t' l' =>
                  simp only [Tgt.upd] at hu
                  split at hu
                  · injection hu with hu; exact ⟨_, hu.symm, trivial⟩
                  · cases hu
                | _ => cases hu)
            refine ⟨_, hv, (Ext.noSubs f).trans (hupd.2.1.trans (Ext.put _ _ _)), fun Kp Q hK => ?_⟩
            unfold Oper.wp
            rw [exec_call hop hcal hent w]
            simp only [Oper.upon]
            have hargs' : cl.args.map a.eval = (cl.args.toList.map a.eval).toArray := by rw [← Array.toList_map, Array.toArray_toList]
            rw [hargs']
            refine hcall.mono fun e w1 he => ?_
            obtain ⟨v, us, c1, ow1, rfl, hres, hbel, hsim, hlen, hpin1⟩ := he
            obtain ⟨q1, q2⟩ := okPostW_iff hpost
            obtain ⟨r1, r2⟩ := results_all (sl := false) (ids := []) hsim hlen q1 q2
            have hpinP : ∀ e ∈ is, c1.rv e.1 = e.2.1 := fun e he => by
              have hm : e.1 ∈ ps.map (·.1) := by rw [← hids]; exact List.mem_map.2 ⟨e, he, rfl⟩
              obtain ⟨e', he', hee⟩ := List.mem_map.1 hm
              have hpp : pinned e.1 = true := by rw [← hee]; exact List.all_eq_true.1 hpinned e' he'
              rw [(hpin1 e.1 hpp).2]
              exact hrvP e he
            have hkeep : ∀ b, b < w.heap.size → ¬ M' b → w1.heap[b]? = w.heap[b]? := fun b hlt hm => hbel.block b hlt hm
            have hQ := updAll_ob (Q := fun o' y => ∃ k t, ∃ l : List (den t), y = .win k t l ∧ o' ∈ ts.map Tgt.root ∧ WinOk X.M cx (ow2 ow1) w1 o' k t l) hg (fun q hq f1 g1 hu => by
              obtain ⟨i, hzi, hie⟩ := zip3 (ka := fun i : Nat × Value × List Nat => i.1) (kb := fun e : Nat × Nat × O => e.1) (hids.trans hpid.symm) q hq
              obtain ⟨k, t, htk⟩ := hI.zip _ hzi
              have hi : i ∈ is := (List.of_mem_zip hzi).2
              have hqe : q.2 ∈ p.ob := (List.of_mem_zip hq).2
              obtain ⟨x, ⟨q21, q22, q23⟩⟩ := q
              have hie : i.1 = q21 := hie
              subst hie
              have hwin := hsim.ob _ _ _ hqe
              have hwinx : ∃ k' t', ∃ l' : List (den t'), q23 = .win k' t' l' := by
                cases q23 with
                | win k' t' l' => exact ⟨_, _, _, rfl⟩
                | box _ => cases x <;> simp [Tgt.upd] at hu
                | row _ _ _ _ _ => cases x <;> simp [Tgt.upd] at hu
              obtain ⟨k', t', l', rfl⟩ := hwinx
              obtain ⟨w0', w1', G', w2', w3', w4'⟩ := (hwin : WinOk M' c1 ow1 w1 i.1 k' t' l')
              rw [hpinP i hi] at w2'
              obtain ⟨k2, T2, L2, Gr, b1, b2, b3, b4, b5, b6⟩ := htk.back w1 G' k' t' l' f1 g1 w2' w3' hu (fun b hlt ho hnG => hkeep b hlt fun hm => hnG (hMold _ hzi b hlt ho hm)) (fun b hbG hlt ho => hMold _ hzi b hlt ho (w4' b hbG).1)
              refine ⟨_, b1, k2, T2, L2, rfl, List.mem_map.2 ⟨x, (List.of_mem_zip hq).1, rfl⟩, b2, b3, Gr, b4, b5, fun b hbG => ?_⟩
              rcases b6 b hbG with ⟨m1, m2, m3, m4, m5⟩ | hbG'
              · have hnm : ¬ M' b := fun hm => m3 (hMold _ hzi b m1 m2 hm)
                exact ⟨m4, (if_neg hnm).trans m2, m5.keep (hkeep b m1 hnm)⟩
              · obtain ⟨m1, m2, m3⟩ := w4' b hbG'
                refine ⟨hMX b m1, ?_, m3⟩
                show (if M' b then (ow1 b).bind rootOf else ow b) = _
                rw [if_pos m1, m2]
                exact hrootOf _ hzi)
            obtain ⟨u1, u2, u3, u4⟩ := hQ
            have hroot : ∀ q, q ∈ ts.map Tgt.root → ∃ n k T L, (q, n, O.win k T L) ∈ f.noSubs.ob := by
              intro q hq
              obtain ⟨x, hx, rfl⟩ := List.mem_map.1 hq
              have : ∃ i, (x, i) ∈ ts.zip is := by
                have key : ∀ {hs : List (Nat × OT)} {ps : List (Nat × C)} {ts : List Tgt} {is : List (Nat × Value × List Nat)}, InfoR X.M cx ow f w (okB X.src cx ow f.ob) hs ps ts is → ∀ x ∈ ts, ∃ i, (x, i) ∈ ts.zip is := by
                  intro hs ps ts is hI
                  induction hI with
                  | nil => intro x hx; cases hx
                  | cons _ _ _ ih =>
                    intro x hx
                    rcases List.mem_cons.1 hx with rfl | hx
                    · exact ⟨_, List.mem_cons_self ..⟩
                    · obtain ⟨i, hi⟩ := ih x hx
                      exact ⟨i, List.mem_cons_of_mem _ hi⟩
                exact key hI x hx
              obtain ⟨i, hi⟩ := this
              obtain ⟨k, t, htk⟩ := hI.zip _ hi
              obtain ⟨k, T2, L2, hob2⟩ := htk.here
              obtain ⟨n, hm⟩ := obj_mem hob2
              exact ⟨n, k, T2, L2, List.mem_map.2 ⟨(x.root, n, .win k T2 L2), hm, by simp [O.isSub]⟩⟩
            have hlive : ∀ b, b < w.heap.size → M' b → live cx ow f.noSubs.ob b := by
              intro b hlt hm
              rcases hm with hm | ⟨e, he, hbe⟩
              · omega
              · obtain ⟨x, hx, h2⟩ := hI.root e he
                obtain ⟨n, k, T2, L2, hm⟩ := hroot x.root (List.mem_map.2 ⟨x, hx, rfl⟩)
                exact ⟨_, _, _, hm, (h2 b hbe).2.1⟩
            have hs' := hs.noSubs
            have hsim2 : SimC X.M X.src cx (ow2 ow1) ⟨g.ctr, f.noSubs.fr, g.ob⟩ a w1 := by
              refine hs'.step (subFree_noSubs f) hbel.size (fun b hlt hnl => hkeep b hlt fun hm => hnl (hlive b hlt hm)) (fun b hlt hl => ?_) (fun o' n y hy => ?_) (u3 hs'.uniq)
              · obtain ⟨o', n, y, hy, hyb⟩ := hl
                rcases u4 o' n y hy with ⟨h1, h2⟩ | ⟨k, t, l, rfl, h2, h3⟩
                · cases y with
                  | box cs => exact ⟨o', n, _, h1, hyb⟩
                  | row _ _ _ _ _ => exact ⟨o', n, _, h1, hyb⟩
                  | win k t l =>
                    have hyb : (if M' b then (ow1 b).bind rootOf else ow b) = some o' := hyb
                    split at hyb
                    · rename_i hm; exact hlive b hlt hm
                    · exact ⟨o', n, _, h1, hyb⟩
                · have hyb : (if M' b then (ow1 b).bind rootOf else ow b) = some o' := hyb
                  split at hyb
                  · rename_i hm; exact hlive b hlt hm
                  · obtain ⟨n', k', T2, L2, hm⟩ := hroot o' h2
                    exact ⟨o', n', _, hm, hyb⟩
              · rcases u4 o' n y hy with ⟨h1, h2⟩ | ⟨k, t, l, rfl, h2, h3⟩
                · refine .inl ⟨⟨n, h1⟩, fun b hlt ho _ => hkeep b hlt fun hm => ?_, fun b hlt ho => ?_⟩
                  · rcases hm with hm | ⟨e, he, hbe⟩
                    · omega
                    · obtain ⟨x, hx, h5⟩ := hI.root e he
                      have := (h5 b hbe).2.1
                      rw [ho] at this
                      injection this with this
                      exact h2 (List.mem_map.2 ⟨x, hx, this.symm⟩)
                  · show (if M' b then (ow1 b).bind rootOf else ow b) = some o'
                    rw [if_neg]
                    · exact ho
                    · rintro (hm | ⟨e, he, hbe⟩)
                      · omega
                      · obtain ⟨x, hx, h5⟩ := hI.root e he
                        have := (h5 b hbe).2.1
                        rw [ho] at this
                        injection this with this
                        exact h2 (List.mem_map.2 ⟨x, hx, this.symm⟩)
                · exact .inr h3
            have hgeq : (⟨g.ctr, f.noSubs.fr, g.ob⟩ : F) = g := by rw [← u1]
            rw [hgeq] at hsim2
            have hat : At X g a w1 := ⟨⟨cx, _, hsim2, hpin⟩, hb.trans ⟨hbel.os, hbel.tape, hbel.output, hbel.size, fun k hk hnm => hkeep k hk fun hm => hnm (hMX k hm)⟩, hn⟩
            have hall : All2 (RelA cx (ow2 ow1) w1 (okB X.src cx (ow2 ow1) g.ob)) us (resAs p.fr) := r1.mono fun u x hx hr => flatA (r2 x hx) hr
            rw [hdst]
            exact hK _ _ (hat.put hsim2 hpin (by rw [← hdst]; exact hd) (RelS_res hres hall)) ⟨(fun hw => by rw [hwr] at hw; cases hw), ⟨v, by rw [hdst], (fun ha => by rw [hop] at ha; cases ha), fun ha => by rw [hop] at ha; simp [isApp, hcal] at ha⟩, (fun x hx => by rw [hop] at hx; simp [appBase, hcal] at hx), hbel.size⟩
          · cases hv
        · cases hv
      · cases hv
    · cases hv
  · cases hv
end
end Go.V
set_option linter.unusedVariables false
set_option linter.unusedSectionVars false
namespace Go.V
open Go.Ab Go.RowKit

section
variable {M src : Nat → Prop} {c : Cx} {ow : Nat → Option Nat} {f : F} {a : Act} {w : World}

theorem ArgsR.mem {i : Nat} {fr : List (Nat × Nat × S)} {xs : List Operand} (h : ArgsR f i fr xs) : ∀ e ∈ fr, ∃ j x d y, e.1 = i + j ∧ xs[j]? = some x ∧ f.get x = some (.val y) ∧ e.2.2 = .val d ∧ ArgA f d y := by
  induction h with
  | nil => intro e he; cases he
  | cons hx ha hs ih =>
    intro e he
    rcases List.mem_cons.1 he with rfl | he
    · exact ⟨0, _, _, _, rfl, rfl, hx, rfl, ha⟩
    · obtain ⟨j, x, d, y, h1, h2, h3⟩ := ih e he
      exact ⟨j + 1, x, d, y, by omega, by simpa using h2, h3⟩
theorem ArgsR.length {i : Nat} {fr : List (Nat × Nat × S)} {xs : List Operand} (h : ArgsR f i fr xs) : fr.length = xs.length := by
  induction h with
  | nil => rfl
  | cons _ _ _ ih => simp [ih]

theorem rowsIn_mem {x : A} {r : Nat} (h : C.row r ∈ x.cells) : r ∈ rowsIn (.val x) := by
  simp only [rowsIn, List.mem_flatMap]
  exact ⟨_, h, by simp⟩
theorem rowsOf_mem {xs : List Operand} {x : Operand} {s : S} {r : Nat} (hx : x ∈ xs) (hg : f.get x = some s) (hr : r ∈ rowsIn s) : r ∈ rowsOf f xs := by
  simp only [rowsOf, List.mem_flatMap]
  exact ⟨x, hx, by rw [hg]; exact hr⟩

theorem args_sim (h : SimC M src c ow f a w) (hsf : f.subFree) {fr : List (Nat × Nat × S)} {xs : List Operand} (ha : ArgsR f 0 fr xs) {sl : Bool} (hsl : ¬ (sl = true ∧ (rowsOf f xs).isEmpty = false)) :
    SimC (fun b => w.heap.size ≤ b) (fun b => w.heap.size ≤ b ∨ okB src c ow f.ob b ∨ sl = false) c (fun _ => none) ⟨1, fr, []⟩ (actL (xs.map a.eval)) w := by
  have hlive : ∀ b, ¬ live c (fun _ => none) [] b := fun b ⟨_, _, _, hm, _⟩ => by cases hm
  have hC : ∀ (v : Value) (d x : C), ArgC f d x → RelC c ow w (okB src c ow f.ob) v x → (sl = true → ∀ r, x ≠ .row r) → x.isSub = false → RelC c (fun _ => none) w (okB (fun b => w.heap.size ≤ b ∨ okB src c ow f.ob b ∨ sl = false) c (fun _ => none) []) v d := by
    rintro v d x ⟨t, y, rfl, hd⟩ hr hrow hsub
    cases hs : sl with
    | false =>
      obtain ⟨G, g1, _⟩ := data_sound h hd hr
      exact ⟨G, g1, fun b _ => ⟨.inr (.inr rfl), hlive b⟩⟩
    | true =>
      obtain ⟨G, g1, g2⟩ := data_ok h hd hr (hrow hs) hsub
      exact ⟨G, g1, fun b hb => ⟨.inr (.inl (g2 b hb)), hlive b⟩⟩
  refine ⟨rfl, fun s n x hm => ?_, fun o n x hm => (by cases hm), fun o n x m y hm => (by cases hm), h.rvs⟩
  obtain ⟨j, op, d, y, h1, h2, h3, h4, h5⟩ := ha.mem _ hm
  simp only [Nat.zero_add] at h1
  have h4 : x = .val d := h4
  subst h1 h4
  have hr : RelA c ow w (okB src c ow f.ob) (a.eval op) y := h.get h3
  have hsub := cells_sub (get_sub hsf h3)
  have hrow : sl = true → ∀ z ∈ y.cells, ∀ r, z ≠ .row r := by
    rintro hs z hz r rfl
    refine hsl ⟨hs, ?_⟩
    have := rowsOf_mem (List.mem_of_getElem? h2) h3 (rowsIn_mem hz)
    cases hl : rowsOf f xs with
    | nil => rw [hl] at this; cases this
    | cons _ _ => rfl
  refine ⟨a.eval op, by simp [actL, h2], ?_⟩
  cases d with
  | one d =>
    cases y with
    | one x => exact hC _ _ _ h5 hr (fun hs => hrow hs x (List.mem_singleton.2 rfl)) (hsub x (List.mem_singleton.2 rfl))
    | agg _ => cases h5
  | agg ds =>
    cases y with
    | one x => cases h5
    | agg zs =>
      obtain ⟨vs, hvs, hall⟩ := hr
      refine ⟨vs, hvs, ?_⟩
      have key : ∀ {vs : List Value} {ds zs : List C}, All2 (RelC c ow w (okB src c ow f.ob)) vs zs → All2 (ArgC f) ds zs → (∀ z ∈ zs, z.isSub = false ∧ (sl = true → ∀ r, z ≠ .row r)) → All2 (RelC c (fun _ => none) w (okB (fun b => w.heap.size ≤ b ∨ okB src c ow f.ob b ∨ sl = false) c (fun _ => none) [])) vs ds := by
        intro vs ds zs hv
        induction hv generalizing ds with
        | nil => intro hd _; cases hd; exact .nil
        | cons h1 h2 ih =>
          intro hd hz
          cases hd with
          | cons k1 k2 => exact .cons (hC _ _ _ k1 h1 (hz _ (List.mem_cons_self ..)).2 (hz _ (List.mem_cons_self ..)).1) (ih k2 fun z hz' => hz z (List.mem_cons_of_mem _ hz'))
      exact key hall h5 fun z hz => ⟨hsub z hz, fun hs => hrow hs z hz⟩

theorem F0_inj {h : Sh} {x : denV h.tys} {fr : List (Nat × Nat × S)} {p : F} (hob : h.ob = []) (hfr : injFr F0 h.fr (toTVs h.tys x) = some (fr, [])) (hp : F0.inj h x = some p) : p = ⟨1, fr, []⟩ := by
  unfold F.inj at hp
  rw [hfr] at hp
  simp only [hob, injOb] at hp
  injection hp with hp
  exact hp.symm
end

section
variable {X : Ctx} {E : List Con} {f : F} {a : Act} {w : World} {o : Oper} {R : Type} {K : F → Option R} {r : R}
theorem All2.map_right2 {α β γ : Type} {R : α → β → Prop} {S : α → γ → Prop} {g : β → γ} {as : List α} {bs : List β} (h : All2 R as bs) (hf : ∀ a b, b ∈ bs → R a b → S a (g b)) : All2 S as (bs.map g) := by
  induction h with
  | nil => exact .nil
  | cons h hs ih => exact .cons (hf _ _ (List.mem_cons_self ..) h) (ih fun a b hb => hf a b (List.mem_cons_of_mem _ hb))

theorem call1_goes (h : At X f a w) (hsf : f.subFree) {c : Con} (hc : c.Ok X.P) (hob : c.pre.ob = []) {cl : Call} (hop : o.op = .call cl) (hcal : cl.callee = .value (.func c.f)) (hd : inFrame X.n o.dst = true) (hv : evCall1 c f o.dst cl.args.toList K = some r) : Goes X E o a w f K r := by
  unfold evCall1 at hv
  split at hv
  · rename_i d hdst
    split at hv
    · cases hv
    · rename_i hsl
      split at hv
      · rename_i tvs hargs
        obtain ⟨x0, hx0, hv⟩ := kOpt_some hv
        obtain ⟨p0, hp0, hv⟩ := kOpt_some hv
        obtain ⟨y0, hy0, hv⟩ := bind_some hv
        obtain ⟨p, hp, hv⟩ := kOpt_some hv
        rcases cond_some hv with ⟨hpost, hv⟩ | ⟨_, hv⟩
        · refine ⟨_, hv, (Ext.adopt p.ob f).trans (Ext.put _ _ _), fun Kp Q hK => ?_⟩
          obtain ⟨⟨cx, ow, hs, hpin⟩, hb, hn⟩ := id h
          have hs := hs.trim
          obtain ⟨fr, hfr, hargR⟩ := args_inj hargs []
          rw [List.append_nil, ← ofTVs_to hx0] at hfr
          have hp0 := F0_inj hob hfr hp0
          subst hp0
          have hmeet := hc x0 y0 _ p hy0 (by assumption) hp
          obtain ⟨hent, hmeet⟩ := hmeet
          have hcall := hmeet w (fun b => w.heap.size ≤ b) _ _ _ (cl.args.toList.map a.eval) (fun b hb => hb) (fun b hb => .inl hb) (args_sim hs hsf hargR hsl) (by simp [hargR.length])
          unfold Oper.wp
          rw [exec_call hop hcal hent w]
          simp only [Oper.upon]
          have hargs' : cl.args.map a.eval = (cl.args.toList.map a.eval).toArray := by rw [← Array.toList_map, Array.toArray_toList]
          rw [hargs']
          refine hcall.mono fun e w' he => ?_
          obtain ⟨v, us, c', ow', rfl, hres, hbel, hsim, hlen, _⟩ := he
          have hblk : ∀ b, b < w.heap.size → w'.heap[b]? = w.heap[b]? := fun b hb => hbel.block b hb (by omega)
          obtain ⟨c'', ow'', hsim'', hpin'', hrel⟩ := join_sound (f := f) (d := d) (sl := c.post.fr.any (·.2.isSl)) (win := c.win) hs hsf (fun b hb => if_neg (by omega)) hsim (fun b hb' => ⟨hb', X.hM b (Nat.le_trans hb.size hb'), X.hsrc b (X.hM b (Nat.le_trans hb.size hb'))⟩) hbel.size hblk hpost (fun hs' b hb' => by
            rcases Nat.lt_or_ge b w.heap.size with hlt | hge
            · rcases hb' with h1 | h1 | h1
              · omega
              · exact .inr ⟨hlt, h1⟩
              · rw [hs'] at h1; cases h1
            · exact .inl ⟨hge, X.hsrc b (X.hM b (Nat.le_trans hb.size hge))⟩)
          obtain ⟨q1, q2, q3, q4, q5⟩ := okPost_iff hpost
          obtain ⟨r1, r2⟩ := results_all (sl := c.post.fr.any (·.2.isSl)) (ids := p.ob.map (·.1)) hsim hlen q1 q4
          have hat : At X (adopt d c.win f p.ob) a w' := ⟨⟨c'', ow'', hsim'', fun o' ho' => ⟨(hpin'' o' ho').1.trans (hpin o' ho').1, (hpin'' o' ho').2.trans (hpin o' ho').2⟩⟩, hb.trans ⟨hbel.os, hbel.tape, hbel.output, hbel.size, fun k hk _ => hblk k hk⟩, hn⟩
          have hall : All2 (RelA c'' ow'' w' (okB X.src c'' ow'' (adopt d c.win f p.ob).ob)) us ((resAs p.fr).map (shA (callId d))) := r1.map_right2 fun u x hx hr => hrel u x (r2 x hx) hr
          rw [hdst]
          refine hK _ _ (hat.put hsim'' (fun o' ho' => ⟨(hpin'' o' ho').1.trans (hpin o' ho').1, (hpin'' o' ho').2.trans (hpin o' ho').2⟩) (by rw [← hdst]; exact hd) (RelS_res hres hall)) ⟨fun _ => hblk, ⟨v, by rw [hdst], (fun ha => by rw [hop] at ha; cases ha), fun ha => by rw [hop] at ha; simp [isApp, hcal] at ha⟩, (fun x hx => by rw [hop] at hx; simp [appBase, hcal] at hx), hbel.size⟩
        · cases hv
      · cases hv
  · cases hv

theorem isVal_allocs {op : Op} (h : isVal op = true) : allocs op = false := by cases op <;> first | rfl | cases h
theorem isVal_isApp {op : Op} (h : isVal op = true) : isApp op = false := by
  cases op with
  | call cl =>
    simp only [isVal] at h
    simp only [isApp]
    split
    · rename_i hc; rw [hc] at h; cases h
    · rfl
  | _ => first | rfl | cases h
theorem isVal_app {op : Op} (h : isVal op = true) : appBase op = none := by
  cases op with
  | call cl =>
    simp only [isVal] at h
    simp only [appBase]
    split
    · rename_i hc _; rw [hc] at h; cases h
    · rfl
  | _ => first | rfl | cases h
theorem At.noSubs (h : At X f a w) : At X f.noSubs a w := by
  obtain ⟨⟨cx, ow, hs, hpin⟩, hb, hn⟩ := h
  exact ⟨⟨cx, ow, hs.noSubs, hpin⟩, hb, hn⟩
theorem At.frzAll (h : At X f a w) (ids : List Nat) : At X (f.frzAll ids) a w := by
  obtain ⟨⟨cx, ow, hs, hpin⟩, hb, hn⟩ := h
  exact ⟨⟨cx, ow, hs.frzAll X.hsrc ids, hpin⟩, hb, hn⟩
theorem Goes.ext {f g : F} (h : Goes X E o a w g K r) (he : Ext f g) : Goes X E o a w f K r := by
  obtain ⟨k, h1, h2, h3⟩ := h
  exact ⟨k, h1, he.trans h2, h3⟩
theorem conOf_some {E : List Con} {g : FuncId} {c : Con} (h : conOf E g = some c) : c ∈ E ∧ c.f = g := by
  unfold conOf at h
  exact ⟨List.mem_of_find?_eq_some h, by simpa using List.find?_some h⟩
theorem Ext.preF (f : F) (op : Op) : Ext f (preF f op) := by
  unfold Go.V.preF
  split
  · split
    · exact Ext.frzRow f _
    · exact .refl f
  · exact .refl f
theorem At.preF (h : At X f a w) (op : Op) : At X (preF f op) a w := by
  unfold Go.V.preF
  split
  · split
    · obtain ⟨⟨cx, ow, hs, hpin⟩, hb, hn⟩ := h
      exact ⟨⟨cx, ow, hs.frzRow X.hsrc _, hpin⟩, hb, hn⟩
    · exact h
  · exact h
theorem flatten_take {t : Ty} {k : Nat} (hk : tyLen t = k) (l : List (den t)) (n : Nat) (hn : n ≤ l.length) : ((l.map (cells t)).flatten).take (n * k) = ((l.take n).map (cells t)).flatten := by
  have h1 : l.map (cells t) = (l.take n).map (cells t) ++ (l.drop n).map (cells t) := by rw [← List.map_append, List.take_append_drop]
  have h2 : ((l.take n).map (cells t)).flatten.length = n * k := by
    rw [flatten_length (k := k) fun e he => by obtain ⟨y, _, rfl⟩ := List.mem_map.1 he; rw [cells_len, hk]]
    simp only [List.length_map, List.length_take]
    rw [Nat.min_eq_left hn]
  rw [h1, List.flatten_append, ← h2, List.take_left]
theorem trunc_sound (h : At X f a w) (hd : inFrame X.n o.dst = true) (hv : evTrunc X.P f o K = some r) : isVal o.op = true ∧ ∃ g v, K g = some r ∧ Ext f g ∧ Gives X.P a w o v ∧ At X g (a.put o.dst v) w := by
  unfold evTrunc at hv
  split at hv
  · rename_i t x y d hop hdst
    refine ⟨by rw [hop]; rfl, ?_⟩
    split at hv
    · rename_i e q kd n ht hx hy
      split at hv
      · rename_i e' k ty l deep i hrow hi
        split at hv
        · rename_i hc
          obtain ⟨hik, hpq⟩ := hc
          rcases cond_some hv with ⟨hsl, hv⟩ | ⟨_, hv⟩
          · obtain ⟨p1, p2, p3⟩ := slOk_iff hsl
            obtain ⟨⟨c, ow, hs, hpin⟩, hb, hnn⟩ := id h
            have hlt : d < a.tmps.size := by rw [hnn]; rw [hdst] at hd; exact inFrame_lt hd
            have hvx : a.eval x = c.rv q := hs.getC hx
            obtain ⟨m, hmem⟩ := obj_mem hrow
            have hmem' : (q, m, O.row e' k ty l deep) ∈ f.noSubs.ob := List.mem_map.2 ⟨_, hmem, by simp [O.isSub]⟩
            have hs' := hs.noSubs
            obtain ⟨r0, r1, r2, xs, G, r3, r4, r5, r6⟩ := hs'.ob _ _ _ hmem'
            have hN : n.toNat ≤ l.length := by omega
            obtain ⟨ad, cap, hrv, _⟩ := ownsRow_len r3
            have hlc : l.length ≤ cap := by
              rcases r3.2 with ⟨hn, h0⟩ | ⟨g, cap', cur, hv', _, _, h1, _⟩
              · rw [h0]; exact Nat.zero_le _
              · rw [hrv] at hv'; injection hv' with _ _ e3; rw [e3]; exact h1
            have hown : w.ownsRow 0 e' k (.slice ad n.toNat cap) n.toNat (xs.take (n.toNat * k)) := by
              have hxl := r3.1
              refine ⟨by rw [List.length_take, hxl]; exact Nat.min_eq_left (Nat.mul_le_mul_right _ hN), ?_⟩
              rcases r3.2 with ⟨hn, h0⟩ | ⟨g, cap', cur, hv', hB, hh, h1, h2, h3, h4⟩
              · rw [hrv] at hn
                injection hn with e1 e2 e3
                have hz : n.toNat = 0 := by omega
                exact .inl ⟨by rw [e1, e3, hz], hz⟩
              · rw [hrv] at hv'
                injection hv' with e1 e2 e3
                refine .inr ⟨g, cap, cur, by rw [e1], hB, hh, by omega, by rw [e3]; exact h2, by rw [e3]; exact h3, ?_⟩
                rw [← h4, List.take_take, Nat.min_eq_left (Nat.mul_le_mul_right _ hN)]
            obtain ⟨G1, H, q1, q2, q3⟩ := r4.take (n.toNat * k)
            rw [flatten_take r1 l n.toNat hN] at q1
            have hG1 : ∀ b ∈ G1, b ∈ G := fun b hb => by rw [q3]; exact List.mem_append_left _ hb
            have hob : (Value.slice ad n.toNat cap).ownBlock = (c.rv q).ownBlock := by rw [hrv]; cases ad <;> rfl
            obtain ⟨ow', h1⟩ := hs'.putRow (subFree_noSubs f) (d := q) (was := (c.rv q).ownBlock) (fun b hb => ⟨(r2 b hb).2, ⟨q, m, _, hmem', hb⟩⟩) (v := .slice ad n.toNat cap) (deep := deep) (l := l.take n.toNat) (t := ty) (Nat.le_refl _) (fun _ _ _ => rfl) (.inr (.inl hob)) (fun b hb => (r2 b (hob ▸ hb)).1)
              (by rw [List.length_take, Nat.min_eq_left hN]; exact hown) r0 r1 q1 (fun b hb => ⟨q1.lt b hb, r5 b (hG1 b hb)⟩) (fun hdp => by
                obtain ⟨n1, n2⟩ := r6 hdp
                refine ⟨(List.nodup_append.1 (q3 ▸ n1)).1, fun b hb => ?_⟩
                obtain ⟨m1, m2, m3, m4⟩ := n2 b (hG1 b hb)
                exact ⟨m1, m4, q, m2, .inl rfl⟩)
            refine ⟨_, .slice ad n.toNat cap, hv, ((Ext.noSubs f).trans (Ext.add _ q _)).trans (Ext.put _ _ _), fun w' _ => ?_, ?_⟩
            · have hbr := bounds_run (P := X.P) (sl := true) (lo := none) (hi := some y) (cap := cap) hs hlc (show bndC f 0 none = some 0 from rfl) (show bndC f (l.length : Int) (some y) = some n by simp [bndC, hy]) p1 p2 p3 w'
              simp only [Option.map_none, Option.map_some] at hbr
              simp only [execOp, hop, hvx, hrv]
              refine run_v ?_
              simp only [Instr.sliceAt, Sem.run_bind, run_underlying ht, Result.andThen_ok, Instr.slice, Option.map_none, Option.map_some, hbr, run_sizeOf hi]
              rcases r3.2 with ⟨hn, h0⟩ | ⟨g, cap', cur, hv', hB, hh, h1, h2, h3, h4⟩
              · rw [hrv] at hn
                injection hn with e1 e2 e3
                rw [e1]
                simp
              · rw [hrv] at hv'
                injection hv' with e1 e2 e3
                rw [e1]
                simp [add_eq]
            · rw [hdst]
              exact ⟨⟨_, ow', h1.put hlt (by simp [RelS, RelA, RelC, Cx.setRv]), hpin.rv hpq _⟩, hb, by rw [size_put]; exact hnn⟩
          · cases hv
        · cases hv
      · cases hv
    · cases hv
  · cases hv
end
end Go.V
set_option linter.unusedVariables false
set_option linter.unusedSectionVars false
namespace Go.V
open Go.Ab Go.RowKit

/-! ### one integer of memory turns -/
section
variable {w w' : World}
/-- One cell of memory turns from an integer of a kind to something else; the rest stays. -/
structure Turned (kd : IntKind) (w w' : World) (b0 p0 : Nat) : Prop where
  old : ∃ n, w.cell? ⟨b0, p0, none⟩ = some (.int kd n)
  rest : ∀ b p, ¬ (b = b0 ∧ p = p0) → w'.cell? ⟨b, p, none⟩ = w.cell? ⟨b, p, none⟩
theorem repL_map : ∀ {ts : List T} {vs : List Value} {F : List Nat}, RepL w vs ts F → (∀ v τ G, τ ∈ ts → Rep w v τ G → Rep w' v τ G) → RepL w' vs ts F
  | [], vs, F, h, k => by cases h; exact .nil
  | τ :: ts, vs, F, h, k => by
    cases h with
    | cons h hs => exact .cons (k _ _ _ (List.mem_cons_self ..) h) (repL_map hs fun v τ' G hτ => k v τ' G (List.mem_cons_of_mem _ hτ))
theorem repL_get : ∀ {ts : List T} {vs : List Value} {F : List Nat} {j : Nat} {v : Value}, RepL w vs ts F → vs[j]? = some v → ∃ τ G, τ ∈ ts ∧ Rep w v τ G
  | [], vs, F, j, v, h, hv => by cases h; simp at hv
  | τ :: ts, vs, F, j, v, h, hv => by
    cases h with
    | cons h hs =>
      cases j with
      | zero => simp at hv; subst hv; exact ⟨_, _, List.mem_cons_self .., h⟩
      | succ j =>
        obtain ⟨τ', G, h1, h2⟩ := repL_get hs (j := j) (v := v) (by simpa using hv)
        exact ⟨τ', G, List.mem_cons_of_mem _ h1, h2⟩
theorem cells_noK {kd : IntKind} {n : Int} : ∀ (t : Ty), noK kd t = true → ∀ y : den t, T.lit (.int kd n) ∉ cells t y
  | .int k, h, y, hm => by
    simp only [cells, List.mem_singleton] at hm
    injection hm with hm
    injection hm with e1 e2
    simp [noK, e1] at h
  | .bool, h, y, hm => by simp [cells] at hm
  | .str, h, y, hm => by simp [cells] at hm
  | .sl t, h, y, hm => by simp [cells] at hm
  | .pair a b, h, y, hm => by
    simp only [noK, Bool.and_eq_true] at h
    simp only [cells, List.mem_append] at hm
    rcases hm with hm | hm
    · exact cells_noK a h.1 y.1 hm
    · exact cells_noK b h.2 y.2 hm
theorem flat_mem {v : Value} {τ : T} {G : List Nat} : ∀ (t : Ty), flat t = true → ∀ y : den t, τ ∈ cells t y → Rep w v τ G → Rep w' v τ G
  | .int k, h, y, hm, hr => by simp only [cells, List.mem_singleton] at hm; subst hm; cases hr with | lit hp => exact .lit hp
  | .bool, h, y, hm, hr => by simp only [cells, List.mem_singleton] at hm; subst hm; cases hr with | lit hp => exact .lit hp
  | .str, h, y, hm, hr => by simp only [cells, List.mem_singleton] at hm; subst hm; cases hr with | lit hp => exact .lit hp
  | .sl t, h, y, hm, hr => by cases h
  | .pair a b, h, y, hm, hr => by
    simp only [flat, Bool.and_eq_true] at h
    simp only [cells, List.mem_append] at hm
    rcases hm with hm | hm
    · exact flat_mem a h.1 y.1 hm hr
    · exact flat_mem b h.2 y.2 hm hr
theorem rep_turn {kd : IntKind} {b0 p0 : Nat} (k : Turned kd w w' b0 p0) : ∀ (t : Ty), noK kd t = true → ∀ (y : den t) (τ : T), τ ∈ cells t y → ∀ (v : Value) (G : List Nat), Rep w v τ G → Rep w' v τ G
  | .int _, h, y, τ, hm, v, G, hr => by simp only [cells, List.mem_singleton] at hm; subst hm; cases hr with | lit hp => exact .lit hp
  | .bool, h, y, τ, hm, v, G, hr => by simp only [cells, List.mem_singleton] at hm; subst hm; cases hr with | lit hp => exact .lit hp
  | .str, h, y, τ, hm, v, G, hr => by simp only [cells, List.mem_singleton] at hm; subst hm; cases hr with | lit hp => exact .lit hp
  | .pair a b, h, y, τ, hm, v, G, hr => by
    simp only [noK, Bool.and_eq_true] at h
    simp only [cells, List.mem_append] at hm
    rcases hm with hm | hm
    · exact rep_turn k a h.1 y.1 τ hm v G hr
    · exact rep_turn k b h.2 y.2 τ hm v G hr
  | .sl t, h, y, τ, hm, v, G, hr => by
    simp only [cells, List.mem_singleton] at hm
    subst hm
    have h : noK kd t = true := h
    generalize hes : List.map (cells t) y = es at hr
    cases hr with
    | nil hc => exact .nil hc
    | @cons b off n' cap' k' es xs F' hnn hp0 hk0 hk' hc hm hxl hcell hr =>
      subst hes
      have hin : ∀ τ, τ ∈ (List.map (cells t) y).flatten → ∃ z : den t, τ ∈ cells t z := fun τ hτ => by
        obtain ⟨l, hl, hτ⟩ := List.mem_flatten.1 hτ
        obtain ⟨z, _, rfl⟩ := List.mem_map.1 hl
        exact ⟨z, hτ⟩
      refine .cons hnn hp0 hk0 hk' hc hm hxl (fun j u hu => ?_) (repL_map hr fun v τ G hτ hr' => ?_)
      · rw [k.rest b (off + j) ?_]
        · exact hcell j u hu
        · rintro ⟨rfl, e⟩
          obtain ⟨n, hn⟩ := k.old
          have h1 := hcell j u hu
          rw [e, hn] at h1
          injection h1 with h1
          subst h1
          obtain ⟨τ, G, h2, h3⟩ := repL_get hr hu
          obtain ⟨z, h4⟩ := hin τ h2
          cases h3 with
          | lit _ => exact cells_noK t h z h4
      · obtain ⟨z, hz⟩ := hin τ hτ
        exact rep_turn k t h z τ hz v G hr'
theorem leaf_mem {v : Value} {G : List Nat} : ∀ (t : Ty) (y : den t), Rep w v (leafT t y) G → leafT t y ∈ cells t y
  | .int _, y, _ => List.mem_singleton.2 rfl
  | .bool, y, _ => List.mem_singleton.2 rfl
  | .str, y, _ => List.mem_singleton.2 rfl
  | .sl t, y, _ => List.mem_singleton.2 rfl
  | .pair _ _, y, h => by cases h
end

section
variable {M src : Nat → Prop} {c : Cx} {ow : Nat → Option Nat} {f : F} {a : Act} {w w' : World} {ok : Nat → Prop}
theorem RelC.turn {kd : IntKind} {b0 p0 : Nat} (k : Turned kd w w' b0 p0) {x : C} {v : Value} (h : RelC c ow w ok v x) (hs : x.safe kd = true) : RelC c ow w' ok v x := by
  cases x with
  | v t y =>
    obtain ⟨G, hr, hG⟩ := h
    simp only [C.safe, Bool.or_eq_true] at hs
    refine ⟨G, ?_, hG⟩
    rcases hs with hs | hs
    · exact flat_mem t hs y (leaf_mem t y hr) hr
    · exact rep_turn k t hs y _ (leaf_mem t y hr) v G hr
  | ep _ _ _ => cases hs
  | sub _ _ _ _ _ _ => cases hs
  | ip _ _ _ _ _ _ _ => cases hs
  | nil => exact h
  | row _ => exact h
  | ptr _ _ => exact h
  | rp _ _ _ _ => exact h
  | clo _ _ => exact h
  | any => exact h
theorem RelA.turn {kd : IntKind} {b0 p0 : Nat} (k : Turned kd w w' b0 p0) {x : A} {v : Value} (h : RelA c ow w ok v x) (hs : x.safe kd = true) : RelA c ow w' ok v x := by
  cases x with
  | one t => exact RelC.turn k h hs
  | agg ts =>
    simp only [A.safe, List.all_eq_true] at hs
    obtain ⟨vs, hv, ha⟩ := h
    exact ⟨vs, hv, ha.mono fun a b hb hr => hr.turn k (hs b hb)⟩
theorem RelS.turn {kd : IntKind} {b0 p0 : Nat} (k : Turned kd w w' b0 p0) {x : S} {v : Value} (h : RelS c ow w ok v x) (hs : x.safe kd = true) : RelS c ow w' ok v x := by
  cases x with
  | val x => exact RelA.turn k h hs
  | tup xs =>
    simp only [S.safe, List.all_eq_true] at hs
    obtain ⟨vs, hv, ha⟩ := h
    exact ⟨vs, hv, ha.mono fun a b hb hr => hr.turn k (hs b hb)⟩
  | un => exact h

/-! ### what is kept -/
theorem safeC_self {kd : IntKind} {x : C} (h : x.safe kd = true) : safeC kd x = x := by simp [safeC, h]
theorem toSafe_self {kd : IntKind} {x : O} (h : x.safe kd = true) : x.toSafe kd = x := by
  cases x with
  | box cs =>
    simp only [O.safe, List.all_eq_true] at h
    simp only [O.toSafe]
    congr 1
    induction cs with
    | nil => rfl
    | cons c cs ih => rw [List.map_cons, safeC_self (h c (List.mem_cons_self ..)), ih fun x hx => h x (List.mem_cons_of_mem _ hx)]
  | row _ _ _ _ _ => rfl
  | win _ _ _ => rfl
theorem toSafe_mem {kd : IntKind} {o n : Nat} {x : O} (h : (o, n, x) ∈ (f.toSafe kd).ob) : ∃ m y, (o, m, y) ∈ f.ob ∧ x = y.toSafe kd ∧ y.kept kd = true := by
  simp only [F.toSafe, List.mem_map, List.mem_filter] at h
  obtain ⟨⟨o', m, y⟩, ⟨hm, hk⟩, he⟩ := h
  split at he
  · rename_i hs
    injection he with e1 he
    injection he with e2 e3
    subst e1 e3
    exact ⟨m, _, hm, (toSafe_self hs).symm, hk⟩
  · injection he with e1 he
    injection he with e2 e3
    subst e1 e3
    exact ⟨m, y, hm, rfl, hk⟩
theorem safeC_safe (kd : IntKind) (x : C) : (safeC kd x).safe kd = true := by
  unfold safeC
  split
  · assumption
  · rfl
theorem toSafe_safe (kd : IntKind) (x : O) : (x.toSafe kd).safe kd = true := by
  cases x with
  | box cs =>
    simp only [O.toSafe, O.safe, List.all_eq_true, List.mem_map]
    rintro _ ⟨y, _, rfl⟩
    exact safeC_safe kd y
  | row _ _ _ _ _ => rfl
  | win _ _ _ => rfl
theorem toSafe_le (kd : IntKind) (x : O) : (x.toSafe kd).le x := by
  cases x with
  | box cs =>
    refine .box ?_
    induction cs with
    | nil => exact .nil
    | cons t ts ih => exact .cons (by unfold safeC; split <;> simp [C.le]) ih
  | row e k t l deep => exact .row id
  | win k t l => exact .win
theorem SimC.toSafe (h : SimC M src c ow f a w) (kd : IntKind) : SimC M src c ow (f.toSafe kd) a w := by
  refine h.weak (fun s n x hm => ⟨n, (List.mem_filter.1 hm).1⟩) (fun o n x hm => ?_) (fun o n x m y hx hy => ?_)
  · obtain ⟨m, y, hy, rfl, _⟩ := toSafe_mem hm
    exact ⟨m, y, hy, toSafe_le kd y⟩
  · obtain ⟨_, x', hx', rfl, _⟩ := toSafe_mem hx
    obtain ⟨_, y', hy', rfl, _⟩ := toSafe_mem hy
    rw [h.uniq _ _ _ _ _ hx' hy']
theorem Ext.toSafe (f : F) (kd : IntKind) : Ext f (f.toSafe kd) := by
  refine ⟨Nat.le_succ _, fun s n x hm _ => (List.mem_filter.1 hm).1, fun o n x hm hn => ?_⟩
  simp only [F.toSafe, List.mem_map, List.mem_filter] at hm
  obtain ⟨⟨o', m, y⟩, ⟨hm, _⟩, he⟩ := hm
  split at he
  · rw [← he]; exact hm
  · injection he with _ he; injection he with e _; omega

/-! ### memory -/
/-- A cell of a slice's element turns from one plain value to another. -/
theorem rep_store {P : Program} {V : Value} {k i off : Nat} {t : Ty} {l : List (den t)} {z : den t} {G : List Nat} (h2 : Rep w V (leafT (.sl t) l) G) (h1 : tyLen t = k) (h3 : G.Nodup) (hi : i < l.length) {τ : T} {u v0 : Value} (ho : off < k) (hold : (cells t l[i])[off]? = some (.lit v0)) (hz : cells t z = sp (cells t l[i]) off [τ]) (hu : Rep w u τ []) {g b0 n cap : Nat} (hrv : V = .slice (some ⟨g, b0, none⟩) n cap) (hunf : Unf w g) :
    ∃ w', (storeCells ⟨g, b0 + (i * k + off), none⟩ [u]).run P w = .ok () w' ∧ Rep w' V (leafT (.sl t) (l.set i z)) G ∧ (∀ b, b ≠ g → w'.heap[b]? = w.heap[b]?) ∧ w'.heap.size = w.heap.size ∧ w'.os = w.os ∧ w'.tape = w.tape ∧ w'.output = w.output ∧ Unf w' g ∧ g ∈ G ∧ w.cell? ⟨g, b0 + (i * k + off), none⟩ = some v0 ∧ ∀ p, p ≠ b0 + (i * k + off) → w'.cell? ⟨g, p, none⟩ = w.cell? ⟨g, p, none⟩ := by
  have hkk : ∀ y ∈ l.map (cells t), y.length = k := fun y hy => by obtain ⟨y', _, rfl⟩ := List.mem_map.1 hy; rw [cells_len, h1]
  rw [hrv] at h2
  simp only [leafT] at h2
  generalize hes : l.map (cells t) = es at h2
  cases h2 with
  | nil hc =>
    have : l = [] := by simpa using hes
    subst this
    simp at hi
  | @cons b off' n' cap' k' es xs G' hnn hp0 hk0 hk' hc hm hxl hcell hr =>
    subst hes
    have hkk' : k' = k := by
      obtain ⟨y, hy⟩ := List.exists_mem_of_length_pos (l := l.map (cells t)) (by simp; omega)
      rw [← hk' y hy, hkk y hy]
    subst hkk'
    obtain ⟨cs, e, hh⟩ := hunf
    rw [List.length_map] at hnn
    subst hnn
    have hik : i * k' + k' ≤ l.length * k' := by rw [← Nat.succ_mul]; exact Nat.mul_le_mul_right _ hi
    have hlt : i * k' + off < xs.length := by omega
    have hcell' := hcell (i * k' + off) _ (List.getElem?_eq_getElem hlt)
    have hcell2 := hcell'
    have hbound : b0 + (i * k' + off) < cs.size := by
      simp only [World.cell?, hh] at hcell'
      exact (Array.getElem?_eq_some_iff.1 hcell').1
    have hrun := run_storeCells_at (P := P) g (b0 + (i * k' + off)) e [u] 0 cs w hh (by simp; omega) (by intro x hx; rw [List.mem_singleton.1 hx]; exact rep_one hu)
    simp only [Nat.add_zero, List.length_singleton] at hrun
    have hother : ∀ b, b ≠ g → (w.setRow g (cs.toList.take (b0 + (i * k' + off)) ++ [u] ++ cs.toList.drop (b0 + (i * k' + off) + 1)).toArray).heap[b]? = w.heap[b]? := by
      intro b hne
      simp only [World.setRow, Array.getElem?_modify]
      rw [if_neg (Ne.symm hne)]
    have hgG : ∀ b ∈ G', b ≠ g := fun b hb e => (List.nodup_cons.1 h3).1 (e ▸ hb)
    have hnew := setRow_heap w g cs (cs.toList.take (b0 + (i * k' + off)) ++ [u] ++ cs.toList.drop (b0 + (i * k' + off) + 1)).toArray e (0, 0) hh
    have hcs : (cs.toList.take (b0 + (i * k' + off)) ++ [u] ++ cs.toList.drop (b0 + (i * k' + off) + 1)) = cs.toList.set (b0 + (i * k' + off)) u := by
      rw [List.set_eq_take_append_cons_drop, if_pos (by simpa using hbound)]
      simp
    have s1 : ((l.set i z).map (cells t)).flatten = sp (l.map (cells t)).flatten (i * k' + off) [τ] := by
      rw [leafT_map, flatten_set hkk (by simpa using hi) (by rw [cells_len, h1]), hz]
      refine sp_sp (flatten_get hkk (by simp [hi])).symm ?_ (by simp; omega)
      rw [flatten_length hkk, List.length_map]
      exact hik
    obtain ⟨F1, F2, F3, a1, a2, a3, a4⟩ := hr.parts (i * k' + off) 1
    have hmid : ((l.map (cells t)).flatten.drop (i * k' + off)).take 1 = [.lit v0] := by
      have hfg := flatten_get hkk (i := i) (e := cells t l[i]) (by simp [hi])
      have : ((l.map (cells t)).flatten)[i * k' + off]? = some (.lit v0) := by
        have h5 : (((l.map (cells t)).flatten.drop (i * k')).take k')[off]? = some (.lit v0) := by rw [hfg]; exact hold
        rw [List.getElem?_take, if_pos ho, List.getElem?_drop] at h5
        exact h5
      rw [List.take_one, List.head?_drop, this]
      rfl
    rw [hmid] at a2
    have hxm : (xs.drop (i * k' + off)).take 1 = [xs[i * k' + off]] := by
      rw [List.take_one, List.head?_drop, List.getElem?_eq_getElem hlt]; rfl
    rw [hxm] at a2
    have hF2 : F2 = [] ∧ xs[i * k' + off] = v0 := by
      generalize xs[i * k' + off] = y at a2
      cases a2 with
      | cons p1 p2 => cases p1; cases p2; exact ⟨rfl, rfl⟩
    obtain ⟨hF2, hv0⟩ := hF2
    subst hF2
    rw [List.nil_append] at a4
    have hrep : RepL w (sp xs (i * k' + off) [u]) (sp (l.map (cells t)).flatten (i * k' + off) [τ]) G' := by
      have := (a1.append (RepL.cons hu RepL.nil)).append a3
      rw [a4]
      simpa [sp] using this
    rw [← s1] at hrep
    refine ⟨_, hrun, ?_, hother, by simp [World.setRow], rfl, rfl, rfl, ⟨_, e, hnew⟩, List.mem_cons_self .., by rw [hcell2, hv0], fun p hp => ?_⟩
    · rw [hrv]
      simp only [leafT]
      refine .cons (k := k') (by simp) hp0 hk0 (fun y hy => by obtain ⟨y', _, rfl⟩ := List.mem_map.1 hy; rw [cells_len, h1]) hc hm (by rw [sp_length (by simp; omega)]; exact hxl) (fun j x hx => ?_) (hrep.frame fun b hb => hother b (hgG b hb))
      simp only [World.cell?, hnew]
      have hjlt : j < xs.length := by have := (List.getElem?_eq_some_iff.1 hx).1; rw [sp_length (by simp; omega)] at this; exact this
      have hold' := hcell j _ (List.getElem?_eq_getElem hjlt)
      simp only [World.cell?, hh] at hold'
      have hsp : sp xs (i * k' + off) [u] = xs.set (i * k' + off) u := by
        unfold sp
        rw [List.set_eq_take_append_cons_drop, if_pos hlt]
        simp
      rw [hsp] at hx
      rw [hcs]
      rw [List.getElem?_set] at hx
      have hgoal : (cs.toList.set (b0 + (i * k' + off)) u)[b0 + j]? = some x := by
        rw [List.getElem?_set]
        split at hx
        · rename_i e1
          rw [if_pos (by omega)]
          rw [if_pos (by simpa using hbound)]
          exact hx
        · rename_i e1
          rw [if_neg (by omega)]
          rw [List.getElem?_eq_getElem hjlt] at hx
          rw [← hx]
          simpa using hold'
      simpa using hgoal
    · simp only [World.cell?, hnew, hh]
      rw [hcs]
      have : (cs.toList.set (b0 + (i * k' + off)) u)[p]? = cs.toList[p]? := List.getElem?_set_ne (Ne.symm hp)
      simpa using this

/-- A leaf of a row's element may be another while the rest stays. -/
theorem repL_part {xs : List Value} {es : List (List T)} {F : List Nat} (hr : RepL w xs es.flatten F) {k i off : Nat} {el : List T} {τ : T} (hk : ∀ e ∈ es, e.length = k) (hi : es[i]? = some el) (ho : el[off]? = some τ) {v : Value} (hv : xs[i * k + off]? = some v) :
    ∃ F1 G F3, F = F1 ++ (G ++ F3) ∧ Rep w v τ G ∧ ∀ (w' : World) (τ' : T), Rep w' v τ' G → (∀ b ∈ F1 ++ F3, w'.heap[b]? = w.heap[b]?) → RepL w' xs (es.set i (sp el off [τ'])).flatten (F1 ++ (G ++ F3)) := by
  have hin : i < es.length := (List.getElem?_eq_some_iff.1 hi).1
  have hel : el.length = k := hk el (List.mem_of_getElem? hi)
  have hok : off < k := by rw [← hel]; exact (List.getElem?_eq_some_iff.1 ho).1
  have hik : i * k + k ≤ es.length * k := by rw [← Nat.succ_mul]; exact Nat.mul_le_mul_right _ hin
  obtain ⟨hlt, hxv⟩ := List.getElem?_eq_some_iff.1 hv
  obtain ⟨F1, F2, F3, a1, a2, a3, a4⟩ := hr.parts (i * k + off) 1
  have hmid : (es.flatten.drop (i * k + off)).take 1 = [τ] := by
    have hfg := flatten_get hk hi
    have : (es.flatten)[i * k + off]? = some τ := by
      have h5 : ((es.flatten.drop (i * k)).take k)[off]? = some τ := by rw [hfg]; exact ho
      rw [List.getElem?_take, if_pos hok, List.getElem?_drop] at h5
      exact h5
    rw [List.take_one, List.head?_drop, this]
    rfl
  have hxm : (xs.drop (i * k + off)).take 1 = [v] := by
    rw [List.take_one, List.head?_drop, hv]; rfl
  rw [hmid, hxm] at a2
  cases a2 with
  | @cons _ _ G _ _ _ p1 p2 =>
    cases p2
    refine ⟨F1, G, F3, by rw [a4]; simp, p1, fun w' τ' hr' hb => ?_⟩
    have hrep : RepL w' xs (sp es.flatten (i * k + off) [τ']) (F1 ++ (G ++ F3)) := by
      have q1 := a1.frame (w' := w') fun b hb' => hb b (by simp [hb'])
      have q3 := a3.frame (w' := w') fun b hb' => hb b (by simp [hb'])
      have := (q1.append (RepL.cons hr' RepL.nil)).append q3
      have hxs : xs.take (i * k + off) ++ [v] ++ xs.drop (i * k + off + 1) = xs := by
        rw [← hxv, List.append_assoc, List.singleton_append, List.getElem_cons_drop, List.take_append_drop]
      rw [hxs] at this
      simpa [sp] using this
    rw [flatten_set hk hin (by rw [sp_length (by simp; omega)]; exact hel), sp_sp (flatten_get hk hi).symm (by rw [flatten_length hk]; exact hik) (by simp; omega)]
    exact hrep

/-! ### the steps -/
section
variable {X : Ctx} {E : List Con} {o : Oper} {R : Type} {K : F → Option R} {r : R}
theorem subL_sound (h : At X f a w) (hd : inFrame X.n o.dst = true) (hv : evSubL X.P f o K = some r) : isVal o.op = true ∧ ∃ g v, K g = some r ∧ Ext f g ∧ Gives X.P a w o v ∧ At X g (a.put o.dst v) w := by
  unfold evSubL at hv
  split at hv
  · rename_i t p hop
    refine ⟨by rw [hop]; rfl, ?_⟩
    split at hv
    · rename_i rr k i off hp
      split at hv
      · rename_i e k' ty l hrow
        split at hv
        · rename_i hk
          subst hk
          obtain ⟨x, hx, hv⟩ := bind_some hv
          obtain ⟨y, hy, hv⟩ := kOpt_some hv
          obtain ⟨⟨c, ow, hs, hpin⟩, hb, hn⟩ := id h
          obtain ⟨g, b0, n, cap, hrv, hpv⟩ := hs.getC hp
          have hok : RowOk X.M c ow w (okB X.src c ow f.ob) rr e k ty l true := hs.obj hrow
          obtain ⟨r0, r1, r2, xs0, G0, r3, r4, r5, r6⟩ := hok
          obtain ⟨hnd, how⟩ := r6 rfl
          have hok2 : RowOk X.M c ow w (fun b => ow b = some rr) rr e k ty l true := ⟨r0, r1, r2, xs0, G0, r3, r4, fun b hb => (how b hb).2.1, r6⟩
          obtain ⟨rfl, xs, G, g1, g2, g3, g4⟩ := row_elem hok2 hx hrv
          obtain ⟨v, hr, hl⟩ := rdC_sound hy (rel_subs (c := c) (ow := ow) (ok := okB X.src c ow f.ob) hrv ty x 0 g1 g2 fun j u hu => by rw [Nat.zero_add, Nat.zero_add]; exact g3 j u hu)
          refine ⟨_, v, hv, Ext.put _ _ _, fun w' hw0 => ?_, h.put hs hpin hd hr⟩
          have hw' := hw0 (by rw [hop]; rfl)
          have h1 := hl w' g (i * k) fun j u hu => (World.cell?_of_block (hw' g g4)).trans (g3 j u hu)
          simp only [execOp, hop, hpv, Nat.zero_add]
          exact run_v (run_loadAt h1)
        · cases hv
      · cases hv
    · cases hv
  · cases hv

theorem safe_subFree {kd : IntKind} (f : F) : (f.toSafe kd).subFree := by
  have hC : ∀ x : C, x.safe kd = true → x.isSub = false := fun x hx => by cases x <;> first | rfl | cases hx
  have hA : ∀ x : A, x.safe kd = true → x.isSub = false := fun x hx => by
    cases x with
    | one x => exact hC x hx
    | agg cs =>
      simp only [A.safe, List.all_eq_true] at hx
      simp only [A.isSub, List.any_eq_false]
      intro y hy
      rw [hC y (hx y hy)]
      simp
  refine ⟨fun s n x hm => ?_, fun o n x hm => ?_⟩
  · have hs : x.safe kd = true := by simpa using (List.mem_filter.1 hm).2
    cases x with
    | val x => exact hA x hs
    | tup xs =>
      simp only [S.safe, List.all_eq_true] at hs
      simp only [S.isSub, List.any_eq_false]
      intro y hy
      rw [hA y (hs y hy)]
      simp
    | un => rfl
  · obtain ⟨_, y, _, rfl, _⟩ := toSafe_mem hm
    have hs := toSafe_safe kd y
    cases hz : y.toSafe kd with
    | box cs =>
      rw [hz] at hs
      simp only [O.safe, List.all_eq_true] at hs
      simp only [O.isSub, List.any_eq_false]
      intro x hx
      rw [hC x (hs x hx)]
      simp
    | row _ _ _ _ _ => rfl
    | win _ _ _ => rfl
/-- An object whose blocks do not turn. -/
theorem ObOk.turn {kd : IntKind} {b0 p0 q : Nat} (k : Turned kd w w' b0 p0) (hq : ow b0 = some q) (hoth : ∀ b, b ≠ b0 → w'.heap[b]? = w.heap[b]?) {o : Nat} {x : O} (h : ObOk M c ow w ok o x) (hs : x.safe kd = true) (hk : x.kept kd = true) (hne : o ≠ q) : ObOk M c ow w' ok o x := by
  have hb : ∀ b, ow b = some o → w'.heap[b]? = w.heap[b]? := fun b ho => hoth b fun e => by
    subst e
    rw [hq] at ho
    injection ho with ho
    exact hne ho.symm
  cases x with
  | box cs =>
    obtain ⟨h1, h2, vs, ty, hh, ha⟩ := h
    simp only [O.safe, List.all_eq_true] at hs
    exact ⟨h1, h2, vs, ty, by rw [hb _ h2]; exact hh, ha.mono fun a b hb hr => hr.turn k (hs b hb)⟩
  | row e kk t l deep =>
    obtain ⟨h0, h1, h2, xs, G, h3, h4, h5, h6⟩ := h
    refine ⟨h0, h1, h2, xs, G, ownsRow_keep h3 fun g hg => hb g (h2 g hg).2, ?_, h5, fun hd => ?_⟩
    · simp only [O.kept, Bool.or_eq_true] at hk
      rcases hk with hk | hk | hk
      · exact h4.frame fun b hbG => hb b ((h6 hk).2 b hbG).2.1
      · exact repL_map h4 fun v τ G hτ hr => by
          obtain ⟨l', hl, hτ⟩ := List.mem_flatten.1 hτ
          obtain ⟨z, _, rfl⟩ := List.mem_map.1 hl
          exact flat_mem t hk z hτ hr
      · exact repL_map h4 fun v τ G hτ hr => by
          obtain ⟨l', hl, hτ⟩ := List.mem_flatten.1 hτ
          obtain ⟨z, _, rfl⟩ := List.mem_map.1 hl
          exact rep_turn k t hk z τ hτ v G hr
    · obtain ⟨h7, h8⟩ := h6 hd
      exact ⟨h7, fun b hbG => ⟨(h8 b hbG).1, (h8 b hbG).2.1, (h8 b hbG).2.2.1, (h8 b hbG).2.2.2.keep (hb b (h8 b hbG).2.1)⟩⟩
  | win kk t l =>
    obtain ⟨h0, h1, G, h2, h3, h4⟩ := h
    exact ⟨h0, h1, G, h2.frame fun b hbG => hb b (h4 b hbG).2.1, h3, fun b hbG => ⟨(h4 b hbG).1, (h4 b hbG).2.1, (h4 b hbG).2.2.keep (hb b (h4 b hbG).2.1)⟩⟩
theorem live_setOb {f : F} {q n : Nat} {x y : O} (hm : (q, n, x) ∈ f.ob) (hu : ∀ o n x m y, (o, n, x) ∈ f.ob → (o, m, y) ∈ f.ob → x = y) (hxy : ∀ b, x.blk c ow q b ↔ y.blk c ow q b) (b : Nat) : live c ow (f.setOb q y).ob b ↔ live c ow f.ob b := by
  constructor
  · rintro ⟨o, m, z, hz, hb⟩
    rcases mem_setOb hz with ⟨_, hz⟩ | ⟨rfl, rfl⟩
    · exact ⟨o, m, z, hz, hb⟩
    · exact ⟨o, n, x, hm, (hxy b).2 hb⟩
  · rintro ⟨o, m, z, hz, hb⟩
    by_cases ho : o = q
    · subst ho
      have := hu _ _ _ _ _ hz hm
      subst this
      exact ⟨o, f.ctr, y, by simp only [F.setOb, List.mem_map]; exact ⟨_, hz, if_pos rfl⟩, (hxy b).1 hb⟩
    · exact ⟨o, m, z, by simp only [F.setOb, List.mem_map]; exact ⟨_, hz, if_neg ho⟩, hb⟩

/-- The blocks of plain cells: none. -/
theorem flat_none {w : World} : ∀ (t : Ty), flat t = true → ∀ (y : den t) {xs : List Value} {F : List Nat}, RepL w xs (cells t y) F → F = []
  | .int _, _, y, xs, F, h => by simp only [cells] at h; cases h with | cons h hs => cases hs; cases h; rfl
  | .bool, _, y, xs, F, h => by simp only [cells] at h; cases h with | cons h hs => cases hs; cases h; rfl
  | .str, _, y, xs, F, h => by simp only [cells] at h; cases h with | cons h hs => cases hs; cases h; rfl
  | .sl t, h, y, xs, F, hr => by cases h
  | .pair a b, h, y, xs, F, hr => by
    simp only [flat, Bool.and_eq_true] at h
    simp only [cells] at hr
    obtain ⟨G1, G2, h1, h2, rfl⟩ := hr.take (cells a y.1).length
    rw [List.take_left] at h1
    rw [List.drop_left] at h2
    rw [flat_none a h.1 y.1 h1, flat_none b h.2 y.2 h2]; rfl
theorem flat_noneL {w : World} {t : Ty} (h : flat t = true) : ∀ (l : List (den t)) {xs : List Value} {F : List Nat}, RepL w xs (l.map (cells t)).flatten F → F = []
  | [], xs, F, hr => by cases hr; rfl
  | y :: l, xs, F, hr => by
    rw [List.map_cons, List.flatten_cons] at hr
    obtain ⟨G1, G2, h1, h2, rfl⟩ := hr.take (cells t y).length
    rw [List.take_left] at h1
    rw [List.drop_left] at h2
    rw [flat_none t h y h1, flat_noneL h l h2]; rfl
/-- A slice of plain elements that begins where another one does lies in its block. -/
theorem pre_blocks {w : World} {t : Ty} (hf : flat t = true) {x x0 : List (den t)} {v v0 : Value} {G F : List Nat} (hr : Rep w v (leafT (.sl t) x) G) (hr0 : Rep w v0 (leafT (.sl t) x0) F) (hp : PreV v v0) : G.Nodup ∧ ∀ b ∈ G, b ∈ F := by
  simp only [leafT] at hr hr0
  generalize hes : x.map (cells t) = es at hr
  generalize hes0 : x0.map (cells t) = es0 at hr0
  cases hr with
  | nil _ => exact ⟨List.nodup_nil, fun b hb => by cases hb⟩
  | @cons b off n cap k es xs G' hnn hp0 hk0 hk' hc hm hxl hcell hrl =>
    subst hes
    have e : G' = [] := flat_noneL hf x hrl
    subst e
    refine ⟨by simp, fun b' hb' => ?_⟩
    rw [List.mem_singleton.1 hb']
    cases hr0 with
    | nil _ =>
      rcases hp with e | ⟨ad, n1, n0, cap1, e1, e2, hle⟩
      · injection e with e1 e2 e3
        omega
      · injection e1 with a1 a2 a3
        injection e2 with d1 d2 d3
        omega
    | @cons b0 off0 n0 cap0 k0 es0 xs0 F' _ _ _ _ _ _ _ _ _ =>
      rcases hp with e | ⟨ad, n1, n2, cap1, e1, e2, hle⟩
      · injection e with e1 e2 e3
        injection e1 with e1
        injection e1 with e1 _ _
        rw [e1]; exact List.mem_cons_self ..
      · injection e1 with a1 a2 a3
        injection e2 with d1 d2 d3
        rw [← a1] at d1
        injection d1 with d1
        injection d1 with d1 _ _
        rw [← d1]; exact List.mem_cons_self ..
theorem storeCut_sound {M src : Nat → Prop} {c : Cx} {ow : Nat → Option Nat} {P : Program} {f : F} {a : Act} {w : World} (h : SimC M src c ow f a w) (hsf : f.subFree) {q n e k : Nat} {t : Ty} {l : List (den t)} (hr : (q, n, .row e k t l true) ∈ f.ob) {i off : Nat} {z : den t} {τ τ0 : T} {u v0 : Value} {G : List Nat} (hi : i < l.length) (ho : off < k)
    (hz : (cells t z) = sp (cells t l[i]) off [τ]) (hu : Rep w u τ G) (hnd : G.Nodup) (hτ0 : (cells t l[i])[off]? = some τ0) (hin : ∀ F, Rep w v0 τ0 F → ∀ b ∈ G, b ∈ F) {g b0 nn cap : Nat} (hrv : c.rv q = .slice (some ⟨g, b0, none⟩) nn cap) (hc0 : w.cell? ⟨g, b0 + (i * k + off), none⟩ = some v0) :
    ∃ w', (storeCells ⟨g, b0 + (i * k + off), none⟩ [u]).run P w = .ok () w' ∧ SimC M src c ow (f.setOb q (.row e k t (l.set i z) true)) a w' ∧ BelowM M w w' ∧ ∀ b, b ≠ g → w'.heap[b]? = w.heap[b]? := by
  obtain ⟨r0, r1, r2, xs, F0, r3, r4, r5, r6⟩ := h.ob _ _ _ hr
  obtain ⟨n1, n2⟩ := r6 rfl
  have hkk : ∀ y ∈ l.map (cells t), y.length = k := fun y hy => by obtain ⟨y', _, rfl⟩ := List.mem_map.1 hy; rw [cells_len, r1]
  have hob : (c.rv q).ownBlock = some g := by simp [hrv, Value.ownBlock]
  have hglt := (ownsRow_lt r3 hob).1
  obtain ⟨hMg, howg⟩ := r2 g hob
  have r3' := r3
  obtain ⟨hxl, hform⟩ := r3
  rcases hform with ⟨hn, _⟩ | ⟨g', cap', cur, hrv', _, hh, h1, h2, h3, h4⟩
  · rw [hrv] at hn; cases hn
  · rw [hrv] at hrv'
    injection hrv' with e1 e2 e3
    injection e1 with e1
    injection e1 with e1 e0 _
    subst e1 e0 e2 e3
    rw [Nat.zero_add] at hc0 ⊢
    have hik : i * k + k ≤ l.length * k := by rw [← Nat.succ_mul]; exact Nat.mul_le_mul_right _ hi
    have hnc : l.length * k ≤ cap * k := Nat.mul_le_mul_right _ h1
    have s1 : ((l.set i z).map (cells t)).flatten = sp (l.map (cells t)).flatten (i * k + off) [τ] := by
      rw [leafT_map, flatten_set hkk (by simpa using hi) (by rw [cells_len, r1]), hz]
      refine sp_sp (flatten_get hkk (by simp [hi])).symm ?_ (by simp; omega)
      rw [flatten_length hkk, List.length_map]
      exact hik
    have hrun := run_storeCells_at (P := P) g (i * k + off) e [u] 0 cur w hh (by simp; omega) (by intro x hx; rw [List.mem_singleton.1 hx]; exact rep_one hu)
    simp only [Nat.add_zero, List.length_singleton] at hrun
    have hother : ∀ b, b ≠ g → (w.setRow g (cur.toList.take (i * k + off) ++ [u] ++ cur.toList.drop (i * k + off + 1)).toArray).heap[b]? = w.heap[b]? := by
      intro b hne
      simp only [World.setRow, Array.getElem?_modify]
      rw [if_neg (Ne.symm hne)]
    have hsz : (w.setRow g (cur.toList.take (i * k + off) ++ [u] ++ cur.toList.drop (i * k + off + 1)).toArray).heap.size = w.heap.size := by simp [World.setRow]
    have hokb : ∀ b, okB src c ow f.ob b → b ≠ g := fun b hok e => hok.2 ⟨q, n, _, hr, e ▸ hob⟩
    have hxu : xs[i * k + off]? = some v0 := by
      simp only [World.cell?, hh] at hc0
      rw [← h4, List.getElem?_take, if_pos (by omega)]
      simpa using hc0
    obtain ⟨F1, F2, F3, a1, a2, a3, a4⟩ := r4.parts (i * k + off) 1
    have hmid : ((l.map (cells t)).flatten.drop (i * k + off)).take 1 = [τ0] := by
      have hfg := flatten_get hkk (i := i) (e := cells t l[i]) (by simp [hi])
      have : ((l.map (cells t)).flatten)[i * k + off]? = some τ0 := by
        have h5 : (((l.map (cells t)).flatten.drop (i * k)).take k)[off]? = some τ0 := by rw [hfg]; exact hτ0
        rw [List.getElem?_take, if_pos ho, List.getElem?_drop] at h5
        exact h5
      rw [List.take_one, List.head?_drop, this]
      rfl
    have hxm : (xs.drop (i * k + off)).take 1 = [v0] := by rw [List.take_one, List.head?_drop, hxu]; rfl
    rw [hmid, hxm] at a2
    have hGF : ∀ b ∈ G, b ∈ F2 := by
      cases a2 with
      | cons p1 p2 =>
        cases p2
        intro b hb
        rw [List.append_nil]
        exact hin _ p1 b hb
    have t1 : RepL w (sp xs (i * k + off) [u]) (sp (l.map (cells t)).flatten (i * k + off) [τ]) (F1 ++ (G ++ F3)) := by
      have := (a1.append (RepL.cons hu RepL.nil)).append a3
      simpa [sp] using this
    rw [← s1] at t1
    have hsub : ∀ b ∈ F1 ++ (G ++ F3), b ∈ F0 := by
      intro b hb
      rw [a4]
      rcases List.mem_append.1 hb with hb | hb
      · exact List.mem_append_left _ hb
      · rcases List.mem_append.1 hb with hb | hb
        · exact List.mem_append_right _ (List.mem_append_left _ (hGF b hb))
        · exact List.mem_append_right _ (List.mem_append_right _ hb)
    have hFF : ∀ b ∈ F1 ++ (G ++ F3), okB src c ow f.ob b := fun b hb => r5 b (hsub b hb)
    refine ⟨_, hrun, ?_, ⟨rfl, rfl, rfl, by omega, fun b hlt hnm => hother b fun e => hnm (e ▸ hMg)⟩, hother⟩
    refine h.turn hsf (y := .row e k t (l.set i z) true) hr (by omega) (fun b hlt hnb => hother b fun e => hnb (by rw [e]; exact hob)) (fun b _ hy => hy) (fun b o' hlt hne hm => Iff.rfl) (fun ok' hok' _ => ?_)
    refine ⟨r0, r1, r2, sp xs (i * k + off) [u], F1 ++ (G ++ F3), ?_, t1.frame fun b hb => hother b (hokb b (hFF b hb)), fun b hb => hok' b (t1.lt b hb) (hFF b hb), fun _ => ⟨?_, fun b hb => ?_⟩⟩
    · rw [List.length_set]
      refine ⟨by rw [sp_length (by rw [hxl]; simp; omega)]; exact hxl, .inr ⟨g, cap, _, hrv, Nat.zero_le _, setRow_heap w g cur _ e (0, 0) hh, h1, h2, ?_, ?_⟩⟩
      · simp; omega
      · show (cur.toList.take (i * k + off) ++ [u] ++ cur.toList.drop (i * k + off + 1)).take (l.length * k) = sp xs (i * k + off) [u]
        unfold sp
        rw [← h4, List.take_append, List.take_append, List.take_take, List.take_take, List.drop_take]
        have b1 : min (l.length * k) (i * k + off) = i * k + off := by omega
        have b2 : min (i * k + off) (l.length * k) = i * k + off := by omega
        have b3 : (cur.toList.take (i * k + off)).length = i * k + off := by simp; omega
        rw [b1, b2, List.length_append, b3, List.take_of_length_le (l := [u]) (by simp; omega)]
        rfl
    · rw [a4] at n1
      obtain ⟨m1, m2, m3⟩ := List.nodup_append.1 n1
      obtain ⟨m4, m5, m6⟩ := List.nodup_append.1 m2
      refine List.nodup_append.2 ⟨m1, List.nodup_append.2 ⟨hnd, m5, fun x hx y hy => m6 x (hGF x hx) y hy⟩, fun x hx y hy => ?_⟩
      rcases List.mem_append.1 hy with hy | hy
      · exact m3 x hx y (List.mem_append_left _ (hGF y hy))
      · exact m3 x hx y (List.mem_append_right _ hy)
    · obtain ⟨q1, q2, q3, q4⟩ := n2 b (hsub b hb)
      exact ⟨q1, q2, q3, q4.keep (hother b (hokb b (hFF b hb)))⟩

theorem storeN_goes (h : At X f a w) {t : TypeId} {p x : Operand} (hop : o.op = .store t p x) (hdst : o.dst = none) (hv : evStoreN X.P f t p x K = some r) : Goes X E o a w f K r := by
  unfold evStoreN at hv
  split at hv
  · rename_i q k i off m j qq kd z inf hp hx hi
    split at hv
    · rename_i e k' T l hrow
      split at hv
      · rename_i hc
        obtain ⟨c1, c2, c3, c4⟩ := hc
        subst c1
        obtain ⟨el, hel, hv⟩ := bind_some hv
        split at hv
        · rename_i t2 x2 hleaf
          split at hv
          · rename_i hm
            obtain ⟨el2, hel2, hv⟩ := bind_some hv
            split at hv
            · rename_i kd' z0 hold
              split at hv
              · rename_i hkd
                subst hkd
                split at hv
                · rename_i el2' hd2
                  split at hv
                  · rename_i el' hd
                    refine ⟨_, hv, (Ext.toSafe f kd').trans (Ext.setOb _ q _), fun Kp Q hK => ?_⟩
                    obtain ⟨⟨c, ow, hs, hpin⟩, hb, hn⟩ := id h
                    obtain ⟨g, b0, nn, cap, g2, b2, n2, cap2, hrv, hcell, hpv⟩ := hs.getC hp
                    obtain ⟨ex, px⟩ := RelC_int (hs.getC (show f.getC x = some (.v (.int kd') z) by unfold F.getC; rw [hx]))
                    obtain ⟨mm, hmem⟩ := obj_mem hrow
                    have hs1 := hs.toSafe kd'
                    have hmem1 : ∃ m1, (q, m1, O.row e k T l true) ∈ (f.toSafe kd').ob := by
                      refine ⟨mm, ?_⟩
                      simp only [F.toSafe, List.mem_map, List.mem_filter]
                      exact ⟨_, ⟨hmem, rfl⟩, if_pos rfl⟩
                    obtain ⟨m1, hmem1⟩ := hmem1
                    obtain ⟨r0, r1, r2, xs, G, r3, r4, r5, r6⟩ := hs1.ob _ _ _ hmem1
                    obtain ⟨hnd, how⟩ := r6 rfl
                    -- the value of the slice
                    have hkk : ∀ e ∈ l.map (cells T), e.length = k := fun e he => by obtain ⟨e', _, rfl⟩ := List.mem_map.1 he; rw [cells_len, r1]
                    have hel' : (l.map (cells T))[i]? = some (cells T el) := by simp [hel]
                    obtain ⟨hcl, _⟩ := split_get T el hleaf
                    have hil : i < l.length := (List.getElem?_eq_some_iff.1 hel).1
                    have hik : i * k + k ≤ l.length * k := by rw [← Nat.succ_mul]; exact Nat.mul_le_mul_right _ hil
                    have hxu : xs[i * k + off]? = some (.slice (some ⟨g2, b2, none⟩) n2 cap2) := by
                      obtain ⟨hxl, hr⟩ := r3
                      rcases hr with ⟨hn', _⟩ | ⟨g', cap', cur, hv', hB, hh, hnc, hcm, hsz, htk⟩
                      · rw [hrv] at hn'; cases hn'
                      · rw [hrv] at hv'
                        injection hv' with e1 e2 e3
                        injection e1 with e1
                        injection e1 with e1 e0 _
                        subst e1 e0
                        simp only [World.cell?, hh] at hcell
                        rw [← htk, List.getElem?_take, if_pos (by omega)]
                        simpa using hcell
                    obtain ⟨F1, G2, F3, e1, p1, p2⟩ := repL_part r4 hkk hel' hcl hxu
                    have hsub : ∀ b ∈ G2, b ∈ G := fun b hb => by rw [e1]; simp [hb]
                    have hnd2 : (F1 ++ (G2 ++ F3)).Nodup := by rw [← e1]; exact hnd
                    have hndG : G2.Nodup := (List.nodup_append.1 (List.nodup_append.1 hnd2).2.1).1
                    have hoff : ∀ b ∈ F1 ++ F3, b ∉ G2 := by
                      intro b hb hG
                      simp only [List.nodup_append, List.mem_append] at hnd2 hb
                      obtain ⟨n1, ⟨n2, n3, n4⟩, n5⟩ := hnd2
                      rcases hb with hb | hb
                      · exact n5 b hb b (.inl hG) rfl
                      · exact n4 b hG b hb rfl
                    have hjl : j < x2.length := (List.getElem?_eq_some_iff.1 hel2).1
                    have hje : x2[j] = el2 := (List.getElem?_eq_some_iff.1 hel2).2
                    have hqm : qq < tyLen t2 := by rw [← tyLn_eq', hm]; exact c4
                    obtain ⟨ts, hts, hzz⟩ := dataL_sp (f := F00) (by simp; exact hqm) hd2
                    obtain ⟨ts2, hts2, hzz2⟩ := dataL_sp (f := F00) (by simp; rw [r1]; exact c3) hd
                    cases hts with
                    | @cons _ τ _ _ hτ hnil =>
                      cases hnil
                      have hτe := DT_v hτ
                      subst hτe
                      cases hts2 with
                      | @cons _ τ2 _ _ hτ2 hnil2 =>
                        cases hnil2
                        have hτe2 := DT_v hτ2
                        subst hτe2
                        obtain ⟨hcell2, _⟩ := split_get t2 el2 hold
                        rw [← hje] at hcell2 hzz
                        have hg2 : g2 ∈ G2 := by
                          generalize hes : leafT (.sl t2) x2 = τ at p1
                          cases p1 with
                          | lit _ => cases hes
                          | nil _ =>
                            have hes : Go.Ab.T.sl (List.map (cells t2) x2) = Go.Ab.T.sl [] := hes
                            injection hes with hes
                            have : x2 = [] := by simpa using hes
                            subst this
                            simp at hjl
                          | cons _ _ _ _ _ _ _ _ _ => exact List.mem_cons_self ..
                        obtain ⟨w', hrun, hrep', hoth, hsz, o1, o2, o3, hunf, _, hc0, hcr⟩ := rep_store (P := X.P) p1 rfl hndG hjl hqm hcell2 hzz (Rep.lit (w := w) px) rfl (how g2 (hsub g2 hg2)).2.2.2
                        have how2 := how g2 (hsub g2 hg2)
                        rw [← hm, tyLn_eq'] at hpv
                        have kt : Turned kd' w w' g2 (b2 + (j * tyLen t2 + qq)) := ⟨⟨_, hc0⟩, fun b p hbp => by
                          by_cases hbg : b = g2
                          · subst hbg
                            exact hcr p fun e => hbp ⟨rfl, e⟩
                          · exact World.cell?_of_block (hoth b hbg)⟩
                        have hstay : ∀ b ∈ F1 ++ F3, w'.heap[b]? = w.heap[b]? := fun b hb => hoth b fun e => hoff b hb (e ▸ hg2)
                        have hrow' := p2 w' _ hrep' hstay
                        rw [← hzz2, ← leafT_map] at hrow'
                        have hlive := live_setOb (c := c) (ow := ow) (y := .row e k T (l.set i el') true) hmem1 hs1.uniq (fun b => Iff.rfl)
                        have hokE : okB X.src c ow ((f.toSafe kd').setOb q (.row e k T (l.set i el') true)).ob = okB X.src c ow (f.toSafe kd').ob := by
                          funext b
                          apply propext
                          exact ⟨fun ⟨h1, h2⟩ => ⟨h1, fun hl => h2 ((hlive b).2 hl)⟩, fun ⟨h1, h2⟩ => ⟨h1, fun hl => h2 ((hlive b).1 hl)⟩⟩
                        have hnew : RowOk X.M c ow w' (okB X.src c ow (f.toSafe kd').ob) q e k T (l.set i el') true := by
                          refine ⟨r0, r1, r2, xs, F1 ++ (G2 ++ F3), ?_, hrow', by rw [← e1]; exact r5, fun _ => ⟨hnd2, ?_⟩⟩
                          · rw [List.length_set]
                            exact ownsRow_keep r3 fun g' hg' => hoth g' fun e => how2.2.2.1 (e ▸ hg')
                          · rw [← e1]
                            intro b hb
                            obtain ⟨h1, h2, h3, h4⟩ := how b hb
                            refine ⟨h1, h2, h3, ?_⟩
                            by_cases hbg : b = g2
                            · rw [hbg]; exact hunf
                            · exact h4.keep (hoth b hbg)
                        have hsim : SimC X.M X.src c ow ((f.toSafe kd').setOb q (.row e k T (l.set i el') true)) a w' := by
                          refine ⟨hs1.defers, fun s n y hm => ?_, fun o n y hm => ?_, fun o n y m y' hm hm' => ?_, hs1.rvs⟩
                          · obtain ⟨v, hv, hr⟩ := hs1.fr s n y hm
                            rw [hokE]
                            have hys : y.safe kd' = true := by simpa using (List.mem_filter.1 hm).2
                            exact ⟨v, hv, hr.turn kt hys⟩
                          · rw [hokE]
                            rcases mem_setOb hm with ⟨hne, hm⟩ | ⟨rfl, rfl⟩
                            · obtain ⟨_, y', _, rfl, hkept⟩ := toSafe_mem hm
                              refine ObOk.turn kt how2.2.1 hoth (hs1.ob _ _ _ hm) (toSafe_safe kd' y') ?_ hne
                              cases y' with
                              | box _ => rfl
                              | row _ _ _ _ _ => exact hkept
                              | win _ _ _ => rfl
                            · exact hnew
                          · rcases mem_setOb hm with ⟨hne, hm⟩ | ⟨e1, rfl⟩
                            · rcases mem_setOb hm' with ⟨_, hm'⟩ | ⟨e2, _⟩
                              · exact hs1.uniq _ _ _ _ _ hm hm'
                              · exact absurd e2 hne
                            · rcases mem_setOb hm' with ⟨hne, _⟩ | ⟨_, rfl⟩
                              · exact absurd e1 hne
                              · rfl
                        unfold Oper.wp
                        have hrun' : (execOp a.eval o).run X.P w = .ok .skip w' := by
                          simp [execOp, hop, Instr.storeAt, hpv, Instr.sureAddr, storeVar, run_sizeOf hi, ex, Value.cells, c2, hrun]
                        rw [hrun']
                        simp only [Oper.upon, hdst]
                        exact hK _ _ ⟨⟨c, ow, hsim, hpin⟩, hb.trans ⟨o1, o2, o3, by omega, fun b hlt hnm => hoth b fun e => hnm (e ▸ how2.1)⟩, hn⟩ (rec_store hop hdst (by omega) fun b _ hne => hoth b (hne g2 (by rw [hpv]; rfl)))
                  · cases hv
                · cases hv
              · cases hv
            · cases hv
          · cases hv
        · cases hv
      · cases hv
    · cases hv
  · rename_i q k i off r' k1 i' off' t2 x2 inf hp hx hi
    split at hv
    · rename_i e k' T l hrow
      split at hv
      · rename_i hc
        obtain ⟨c1, c2, c3, c4, c5, c6⟩ := hc
        subst c1 c2 c3
        rcases cond_some hv with ⟨c7, hv2⟩ | ⟨_, hv2⟩
        clear hv
        · have c7 : off' = i * k + off := by simpa using c7
          subst c7
          obtain ⟨el, hel, hv⟩ := bind_some hv2
          split at hv
          · rename_i t3 x3 hleaf
            split at hv
            · rename_i ht3
              subst ht3
              split at hv
              · rename_i el' hd
                refine ⟨_, hv, (Ext.noSubs f).trans (Ext.setOb _ r' _), fun Kp Q hK => ?_⟩
                obtain ⟨⟨c, ow, hs, hpin⟩, hb, hn⟩ := id h
                obtain ⟨g, b0, nn, cap, hrv, hpv⟩ := hs.getC hp
                obtain ⟨g', b0', nn', cap', hrv', ⟨v0, hc0, hpre, _⟩, G, hrep, hG⟩ := hs.getC (show f.getC x = some (.sub r' 0 i' (i * k + off) t3 x2) by unfold F.getC; rw [hx])
                rw [hrv] at hrv'
                injection hrv' with e1 e2 e3
                injection e1 with e1
                injection e1 with e1 e0 _
                subst e1 e0
                rw [Nat.mul_zero, Nat.zero_add] at hc0
                obtain ⟨mm, hmem⟩ := obj_mem hrow
                have hmem' : (r', mm, O.row e k T l true) ∈ f.noSubs.ob := List.mem_map.2 ⟨_, hmem, by simp [O.isSub]⟩
                have hs' := hs.noSubs
                obtain ⟨r0, r1, _⟩ := hs'.ob _ _ _ hmem'
                have hil : i < l.length := (List.getElem?_eq_some_iff.1 hel).1
                have hie : l[i] = el := (List.getElem?_eq_some_iff.1 hel).2
                obtain ⟨hcl, _⟩ := split_get T el hleaf
                obtain ⟨ts, hts, hzz⟩ := dataL_sp (f := F00) (by simp; rw [r1]; exact c5) hd
                cases hts with
                | @cons _ τ _ _ hτ hnil =>
                  cases hnil
                  have hτe := DT_v hτ
                  subst hτe
                  have key : ∀ F, Rep w v0 (leafT (.sl t3) x3) F → G.Nodup ∧ ∀ b ∈ G, b ∈ F := fun F hF => pre_blocks c6 hrep hF hpre
                  have hnd : G.Nodup := by
                    have := pre_blocks c6 hrep hrep (.inl rfl)
                    exact this.1
                  obtain ⟨w', hrun, hsim, hbel, hoth⟩ := storeCut_sound (P := X.P) hs' (subFree_noSubs f) hmem' hil c5 (by rw [hie]; exact hzz) hrep hnd (by rw [hie]; exact hcl) (fun F hF b hb => (key F hF).2 b hb) hrv hc0
                  unfold Oper.wp
                  have hcx : (a.eval x).cells = #[a.eval x] := (solid_cell hs.rvs (hs.getC (show f.getC x = some (.sub r' 0 i' (i * k + off) t3 x2) by unfold F.getC; rw [hx])) rfl).2
                  have hrun' : (execOp a.eval o).run X.P w = .ok .skip w' := by
                    simp [execOp, hop, Instr.storeAt, hpv, Instr.sureAddr, storeVar, run_sizeOf hi, hcx, c4, hrun]
                  rw [hrun']
                  simp only [Oper.upon, hdst]
                  exact hK _ _ ⟨⟨c, ow, hsim, hpin⟩, hb.trans hbel, hn⟩ (rec_store hop hdst hbel.size fun b _ hne => hoth b (hne g (by rw [hpv]; rfl)))
              · cases hv
            · cases hv
          · cases hv
        · cases hv2
      · cases hv
    · cases hv
  · cases hv
end
end
end Go.V
set_option linter.unusedVariables false
set_option linter.unusedSectionVars false
namespace Go.V
open Go.Ab Go.RowKit

section
variable {M src : Nat → Prop} {c : Cx} {ow : Nat → Option Nat} {f g : F} {a : Act} {w : World}

theorem tyLn_eq : ∀ t : Ty, tyLn t = tyLen t
  | .pair a b => by simp [tyLn, tyLen, tyLn_eq a, tyLn_eq b]
  | .int _ => rfl
  | .bool => rfl
  | .str => rfl
  | .sl _ => rfl

theorem unused_free {e : Nat} (h : f.unused e = true) : f.free e := by
  simp only [F.unused, Bool.and_eq_true, List.all_eq_true] at h
  refine ⟨fun s n x hm => by simpa using h.1 _ hm, fun o n x hm => ?_⟩
  have := h.2 _ hm
  simpa using this

/-! ### another number -/
def Cx.ren (c : Cx) (d e : Nat) : Cx := ⟨fun o => if o = e then c.loc d else c.loc o, fun o => if o = e then c.rv d else c.rv o⟩
def renOw (ow : Nat → Option Nat) (d e : Nat) (b : Nat) : Option Nat := if ow b = some e then none else (ow b).map fun o => if o = d then e else o
theorem renOw_of {d e b o : Nat} (h : ow b = some o) (hne : o ≠ e) : renOw ow d e b = some (if o = d then e else o) := by
  unfold renOw
  rw [if_neg (by rw [h]; simpa using hne), h]
  rfl
theorem renOw_to {d e b o : Nat} (h : renOw ow d e b = some (if o = d then e else o)) (hne : o ≠ e) : ow b = some o := by
  unfold renOw at h
  split at h
  · cases h
  · rename_i hn
    obtain ⟨q, hq, h1⟩ := Option.map_eq_some_iff.1 h
    have hqe : q ≠ e := fun he => hn (by rw [hq, he])
    have : q = o := by
      by_cases h2 : q = d <;> by_cases h3 : o = d
      · rw [h2, h3]
      · rw [if_pos h2, if_neg h3] at h1; exact absurd h1.symm hne
      · rw [if_neg h2, if_pos h3] at h1; exact absurd h1 hqe
      · rw [if_neg h2, if_neg h3] at h1; exact h1
    rw [hq, this]
theorem ren_cx {d e o : Nat} (hne : o ≠ e) : (c.ren d e).loc (if o = d then e else o) = c.loc o ∧ (c.ren d e).rv (if o = d then e else o) = c.rv o := by
  by_cases hd : o = d
  · subst hd; simp [Cx.ren]
  · simp [Cx.ren, hd, hne]
theorem renC_sound {ok : Nat → Prop} {d e : Nat} {x : C} {v : Value} (h : RelC c ow w ok v x) (hn : x.names e = false) : RelC (c.ren d e) (renOw ow d e) w ok v (renC d e x) := by
  cases x with
  | row r =>
    have hn : r ≠ e := by simpa [C.names] using hn
    show v = (c.ren d e).rv _
    rw [(ren_cx hn).2]; exact h
  | ptr o off =>
    have hn : o ≠ e := by simpa [C.names] using hn
    show v = .pointer (some ⟨(c.ren d e).loc _, off, none⟩)
    rw [(ren_cx hn).1]; exact h
  | rp r k i off =>
    have hn : r ≠ e := by simpa [C.names] using hn
    obtain ⟨g, b0, n, cap, h1, h2⟩ := h
    exact ⟨g, b0, n, cap, by rw [(ren_cx hn).2]; exact h1, h2⟩
  | sub r k i off t x =>
    have hn : r ≠ e := by simpa [C.names] using hn
    obtain ⟨g, b0, n, cap, h1, h2, G, h3, h4⟩ := h
    exact ⟨g, b0, n, cap, by rw [(ren_cx hn).2]; exact h1, h2, G, h3, fun b hb => renOw_of (h4 b hb) hn⟩
  | ip r k i off m j p =>
    have hn : r ≠ e := by simpa [C.names] using hn
    obtain ⟨g, b0, n, cap, g2, b2, n2, cap2, h1, h2⟩ := h
    exact ⟨g, b0, n, cap, g2, b2, n2, cap2, by rw [(ren_cx hn).2]; exact h1, h2⟩
  | clo g o =>
    have hn : o ≠ e := by simpa [C.names] using hn
    show v = .func (.func g) #[] #[.pointer (some ⟨(c.ren d e).loc _, 0, none⟩)]
    rw [(ren_cx hn).1]; exact h
  | v _ _ => exact h
  | nil => exact h
  | ep _ _ _ => exact h
  | any => exact h
theorem A.ren_sound {ok : Nat → Prop} {d e : Nat} {x : A} {v : Value} (h : RelA c ow w ok v x) (hn : x.names e = false) : RelA (c.ren d e) (renOw ow d e) w ok v (x.ren d e) := by
  cases x with
  | one t => exact renC_sound h hn
  | agg ts =>
    obtain ⟨vs, rfl, ha⟩ := h
    simp only [A.names, List.any_eq_false] at hn
    exact ⟨vs, rfl, ha.map_right2 fun u t ht hu => renC_sound hu (by simpa using hn t ht)⟩
theorem S.ren_sound {ok : Nat → Prop} {d e : Nat} {x : S} {v : Value} (h : RelS c ow w ok v x) (hn : x.names e = false) : RelS (c.ren d e) (renOw ow d e) w ok v (x.ren d e) := by
  cases x with
  | val x => exact A.ren_sound h hn
  | tup xs =>
    obtain ⟨vs, rfl, ha⟩ := h
    simp only [S.names, List.any_eq_false] at hn
    exact ⟨vs, rfl, ha.map_right2 fun u t ht hu => A.ren_sound hu (by simpa using hn t ht)⟩
  | un => exact h
theorem renC_self {d e : Nat} {x : C} (h : x.names d = false) : renC d e x = x := by
  cases x with
  | row r =>
    have : r ≠ d := by simpa [C.names] using h
    simp [renC, this]
  | ptr o off =>
    have : o ≠ d := by simpa [C.names] using h
    simp [renC, this]
  | rp r k i off =>
    have : r ≠ d := by simpa [C.names] using h
    simp [renC, this]
  | sub r k i off t x =>
    have : r ≠ d := by simpa [C.names] using h
    simp [renC, this]
  | ip r k i off m j p =>
    have : r ≠ d := by simpa [C.names] using h
    simp [renC, this]
  | clo g o =>
    have : o ≠ d := by simpa [C.names] using h
    simp [renC, this]
  | v _ _ => rfl
  | nil => rfl
  | ep _ _ _ => rfl
  | any => rfl
theorem map_self {α : Type} {f : α → α} : ∀ {l : List α}, (∀ x ∈ l, f x = x) → l.map f = l
  | [], _ => rfl
  | x :: xs, h => by rw [List.map_cons, h x (List.mem_cons_self ..), map_self fun y hy => h y (List.mem_cons_of_mem _ hy)]
theorem A.ren_self {d e : Nat} {x : A} (h : x.names d = false) : x.ren d e = x := by
  cases x with
  | one t => simp only [A.ren]; rw [renC_self h]
  | agg ts => simp only [A.names, List.any_eq_false] at h; simp only [A.ren]; rw [map_self fun y hy => renC_self (by simpa using h y hy)]
theorem S.ren_self {d e : Nat} {x : S} (h : x.names d = false) : x.ren d e = x := by
  cases x with
  | val x => simp only [S.ren]; rw [A.ren_self h]
  | tup xs => simp only [S.names, List.any_eq_false] at h; simp only [S.ren]; rw [map_self fun y hy => A.ren_self (by simpa using h y hy)]
  | un => rfl
theorem O.ren_self {d e : Nat} {x : O} (h : x.names d = false) : x.ren d e = x := by
  cases x with
  | box cs => simp only [O.names, List.any_eq_false] at h; simp only [O.ren]; rw [map_self fun y hy => renC_self (by simpa using h y hy)]
  | row _ _ _ _ _ => rfl
  | win _ _ _ => rfl

def F.ren (f : F) (d e : Nat) : F := ⟨f.ctr + 1, f.fr.map (fun x => if x.2.2.names d then (x.1, f.ctr, x.2.2.ren d e) else x), f.ob.map fun x => if x.1 = d then (e, f.ctr, x.2.2.ren d e) else if x.2.2.names d then (x.1, f.ctr, x.2.2.ren d e) else x⟩
theorem ren_fr {d e s n : Nat} {x : S} (h : (s, n, x) ∈ (f.ren d e).fr) : ∃ m y, (s, m, y) ∈ f.fr ∧ x = y.ren d e ∧ (n < f.ctr → (s, n, x) ∈ f.fr) := by
  simp only [F.ren, List.mem_map] at h
  obtain ⟨⟨s1, m, y⟩, hm, he⟩ := h
  cases hn : y.names d with
  | true =>
    simp only [hn, if_true] at he
    injection he with e1 he
    injection he with e2 e3
    subst e1 e3
    exact ⟨m, y, hm, rfl, fun hlt => by omega⟩
  | false =>
    simp only [hn] at he
    injection he with e1 he
    injection he with e2 e3
    subst e1 e2 e3
    exact ⟨m, y, hm, (S.ren_self hn).symm, fun _ => hm⟩
theorem ren_ob {d e o n : Nat} {x : O} (h : (o, n, x) ∈ (f.ren d e).ob) : ∃ o1 m y, (o1, m, y) ∈ f.ob ∧ o = (if o1 = d then e else o1) ∧ x = y.ren d e ∧ (n < f.ctr → (o, n, x) ∈ f.ob) := by
  simp only [F.ren, List.mem_map] at h
  obtain ⟨⟨o1, m, y⟩, hm, he⟩ := h
  by_cases hd : o1 = d
  · simp only [hd, if_true] at he
    injection he with e1 he
    injection he with e2 e3
    subst e1 e3
    exact ⟨o1, m, y, hm, by rw [if_pos hd], rfl, fun hlt => by omega⟩
  · simp only [hd, if_false] at he
    cases hn : y.names d with
    | true =>
      simp only [hn, if_true] at he
      injection he with e1 he
      injection he with e2 e3
      subst e1 e3
      exact ⟨o1, m, y, hm, by rw [if_neg hd], rfl, fun hlt => by omega⟩
    | false =>
      simp only [hn] at he
      injection he with e1 he
      injection he with e2 e3
      subst e1 e2 e3
      exact ⟨o1, m, y, hm, by rw [if_neg hd], (O.ren_self hn).symm, fun _ => hm⟩
theorem Ext.ren (f : F) (d e : Nat) : Ext f (f.ren d e) := ⟨Nat.le_succ _, fun s n x hm hn => by obtain ⟨_, _, _, _, h⟩ := ren_fr hm; exact h hn, fun o n x hm hn => by obtain ⟨_, _, _, _, _, _, h⟩ := ren_ob hm; exact h hn⟩
theorem ren_mem {d e o1 m : Nat} {y : O} (h : (o1, m, y) ∈ f.ob) : ∃ n, ((if o1 = d then e else o1), n, y.ren d e) ∈ (f.ren d e).ob := by
  simp only [F.ren, List.mem_map]
  by_cases hd : o1 = d
  · exact ⟨f.ctr, (o1, m, y), h, by simp [hd]⟩
  · cases hn : y.names d with
    | true => exact ⟨f.ctr, (o1, m, y), h, by simp [hd, hn]⟩
    | false => exact ⟨m, (o1, m, y), h, by simp [hd, hn, O.ren_self hn]⟩

theorem SimC.ren (h : SimC M src c ow f a w) {d e : Nat} (hf : f.free e) : SimC M src (c.ren d e) (renOw ow d e) (f.ren d e) a w := by
  have hblk : ∀ o1 m y, (o1, m, y) ∈ f.ob → ∀ b, (y.ren d e).blk (c.ren d e) (renOw ow d e) (if o1 = d then e else o1) b ↔ y.blk c ow o1 b := by
    intro o1 m y hy b
    have hne := (hf.2 o1 m y hy).1
    obtain ⟨h1, h2⟩ := ren_cx (c := c) (d := d) hne
    cases y with
    | box cs => simp only [O.ren, O.blk, h1]
    | row e' k t l dp => simp only [O.ren, O.blk, h2]
    | win k t l => exact ⟨fun hb => renOw_to hb hne, fun hb => renOw_of hb hne⟩
  have hok : okB src (c.ren d e) (renOw ow d e) (f.ren d e).ob = okB src c ow f.ob := by
    funext b
    apply propext
    refine and_congr_right fun _ => not_congr ⟨?_, ?_⟩
    · rintro ⟨o', n, x, hm, hx⟩
      obtain ⟨o1, m, y, hy, rfl, rfl, _⟩ := ren_ob hm
      exact ⟨o1, m, y, hy, (hblk o1 m y hy b).1 hx⟩
    · rintro ⟨o1, m, y, hy, hx⟩
      obtain ⟨n, hn⟩ := ren_mem (d := d) (e := e) hy
      exact ⟨_, n, _, hn, (hblk o1 m y hy b).2 hx⟩
  refine ⟨h.defers, fun s n x hm => ?_, fun o' n x hm => ?_, fun o' n x m' y hx hy => ?_, fun r => ?_⟩
  · obtain ⟨m, y, hy, rfl, _⟩ := ren_fr hm
    obtain ⟨v, hv, h1⟩ := h.fr s m y hy
    exact ⟨v, hv, by rw [hok]; exact S.ren_sound h1 (hf.1 s m y hy)⟩
  · rw [hok]
    obtain ⟨o1, m, y, hy, rfl, rfl, _⟩ := ren_ob hm
    obtain ⟨hne, hnm⟩ := hf.2 o1 m y hy
    obtain ⟨l1, l2⟩ := ren_cx (c := c) (d := d) hne
    have ho := h.ob _ _ _ hy
    cases y with
    | box cs =>
      obtain ⟨b1, b2, vs, ty, b3, b4⟩ := ho
      simp only [O.names, List.any_eq_false] at hnm
      exact ⟨by rw [l1]; exact b1, by rw [l1]; exact renOw_of b2 hne, vs, ty, by rw [l1]; exact b3, b4.map_right2 fun u t ht hu => renC_sound hu (by simpa using hnm t ht)⟩
    | row e' k t l dp =>
      obtain ⟨r0, r1, r2, xs, G, r3, r4, r5, r6⟩ := ho
      refine ⟨r0, r1, fun g hg => ?_, xs, G, by rw [l2]; exact r3, r4, r5, fun hd => ?_⟩
      · rw [l2] at hg; exact ⟨(r2 g hg).1, renOw_of (r2 g hg).2 hne⟩
      · obtain ⟨n1, n2⟩ := r6 hd
        refine ⟨n1, fun b hb => ?_⟩
        obtain ⟨m1, m2, m3, m4⟩ := n2 b hb
        exact ⟨m1, renOw_of m2 hne, by rw [l2]; exact m3, m4⟩
    | win k t l =>
      obtain ⟨r0, r1, G, r2, r3, r4⟩ := ho
      exact ⟨r0, r1, G, by rw [l2]; exact r2, r3, fun b hb => ⟨(r4 b hb).1, renOw_of (r4 b hb).2.1 hne, (r4 b hb).2.2⟩⟩
  · obtain ⟨o1, m1, y1, hy1, q1, rfl, _⟩ := ren_ob hx
    obtain ⟨o2, m2, y2, hy2, q2, rfl, _⟩ := ren_ob hy
    have hne1 := (hf.2 _ _ _ hy1).1
    have hne2 := (hf.2 _ _ _ hy2).1
    have : o1 = o2 := by
      rw [q1] at q2
      by_cases h1 : o1 = d <;> by_cases h2 : o2 = d
      · rw [h1, h2]
      · rw [if_pos h1, if_neg h2] at q2; exact absurd q2.symm hne2
      · rw [if_neg h1, if_pos h2] at q2; exact absurd q2 hne1
      · rw [if_neg h1, if_neg h2] at q2; exact q2
    subst this
    rw [h.uniq _ _ _ _ _ hy1 hy2]
  · simp only [Cx.ren]
    split
    · exact h.rvs d
    · exact h.rvs r

/-! ### nil as an empty row -/
theorem SimC.addNil (h : SimC M src c ow f a w) {d m n e k : Nat} {t : Ty} (hf : f.free d) (hk : 0 < k) (ht : tyLen t = k) : SimC M src (c.setRv d (.slice none 0 0)) ow ⟨n, f.fr, (d, m, .row e k t [] true) :: f.ob⟩ a w := by
  have h1 := h.recx hf (Cx.but_rv c d (.slice none 0 0)) (fun r => by
    simp only [Cx.setRv]
    split
    · exact ⟨_, _, _, rfl⟩
    · exact h.rvs r)
  have hrv : (c.setRv d (.slice none 0 0)).rv d = .slice none 0 0 := by simp [Cx.setRv]
  have hok : okB src (c.setRv d (.slice none 0 0)) ow ((d, m, .row e k t [] true) :: f.ob) = okB src (c.setRv d (.slice none 0 0)) ow f.ob := by
    funext b
    apply propext
    refine and_congr_right fun _ => not_congr ⟨?_, ?_⟩
    · rintro ⟨o', n', x, hm, hx⟩
      rcases List.mem_cons.1 hm with he | hm
      · injection he with e1 he
        injection he with e2 e3
        subst e1 e3
        have hx : ((c.setRv o' (.slice none 0 0)).rv o').ownBlock = some b := hx
        rw [hrv] at hx
        cases hx
      · exact ⟨o', n', x, hm, hx⟩
    · rintro ⟨o', n', x, hm, hx⟩
      exact ⟨o', n', x, List.mem_cons_of_mem _ hm, hx⟩
  refine ⟨h1.defers, fun s n x hm => ?_, fun o' n x hm => ?_, fun o' n x m' y hx hy => ?_, h1.rvs⟩
  · obtain ⟨v, hv, h2⟩ := h1.fr s n x hm
    exact ⟨v, hv, by rw [hok]; exact h2⟩
  · rw [hok]
    rcases List.mem_cons.1 hm with he | hm
    · injection he with e1 he
      injection he with e2 e3
      subst e1 e3
      refine ⟨hk, ht, fun g hg => ?_, [], [], ?_, .nil, by simp, fun _ => by simp⟩
      · rw [hrv] at hg; cases hg
      · rw [hrv]; exact ⟨by simp, .inl ⟨rfl, rfl⟩⟩
    · exact h1.ob o' n x hm
  · rcases List.mem_cons.1 hx with he | hx1
    · injection he with e1 e2
      injection e2 with _ e2
      rcases List.mem_cons.1 hy with he' | hy1
      · injection he' with e3 e4
        injection e4 with _ e4
        rw [e2, e4]
      · exact absurd e1 ((hf.2 _ _ _ hy1).1)
    · rcases List.mem_cons.1 hy with he' | hy1
      · injection he' with e3 e4
        exact absurd e3 ((hf.2 _ _ _ hx1).1)
      · exact h1.uniq _ _ _ _ _ hx1 hy1
theorem All2.setR {α β : Type} {R : α → β → Prop} {as : List α} {bs : List β} (h : All2 R as bs) {j : Nat} {b b' : β} (hj : bs[j]? = some b) (hr : ∀ u, R u b → R u b') : All2 R as (bs.set j b') := by
  induction h generalizing j with
  | nil => simp at hj
  | cons h hs ih =>
    cases j with
    | zero => simp at hj; subst hj; exact .cons (hr _ h) hs
    | succ j => exact .cons h (ih (by simpa using hj))
theorem setC_sound {ok : Nat → Prop} {x : A} {v : Value} {j : Nat} {y y' : C} (h : RelA c ow w ok v x) (hj : x.cells[j]? = some y) (hr : ∀ u, RelC c ow w ok u y → RelC c ow w ok u y') : RelA c ow w ok v (x.setC j y') := by
  cases x with
  | one z =>
    simp only [A.cells] at hj
    cases j with
    | zero => simp at hj; subst hj; exact hr v h
    | succ j => simp at hj
  | agg zs =>
    obtain ⟨vs, hv, ha⟩ := h
    exact ⟨vs, hv, ha.setR hj hr⟩
/-- A slot says something else of the same value. -/
theorem SimC.slot (h : SimC M src c ow f a w) {s : Nat} {x x' : S} (hl : f.look s = some x) (hr : ∀ v, RelS c ow w (okB src c ow f.ob) v x → RelS c ow w (okB src c ow f.ob) v x') : SimC M src c ow (f.put (some s) x') a w := by
  refine ⟨h.defers, fun s' n y hm => ?_, h.ob, h.uniq, h.rvs⟩
  simp only [F.put, List.mem_cons, List.mem_filter] at hm
  rcases hm with hm | ⟨hm, hne⟩
  · injection hm with e1 hm
    injection hm with e2 e3
    subst e1 e2 e3
    obtain ⟨n, hn⟩ := look_mem hl
    obtain ⟨v, hv, h1⟩ := h.fr _ _ _ hn
    exact ⟨v, hv, hr v h1⟩
  · exact h.fr s' n y hm
/-- A box says something else of the same cells. -/
theorem SimC.boxed (h : SimC M src c ow f a w) {i : Nat} {cs cs' : List C} (hb : f.obj i = some (.box cs)) (hr : ∀ vs, All2 (RelC c ow w (okB src c ow f.ob)) vs cs → All2 (RelC c ow w (okB src c ow f.ob)) vs cs') : SimC M src c ow (f.setOb i (.box cs')) a w := by
  obtain ⟨n0, hn0⟩ := obj_mem hb
  have hok : okB src c ow (f.setOb i (.box cs')).ob = okB src c ow f.ob := by
    funext b
    apply propext
    refine and_congr_right fun _ => not_congr ⟨?_, ?_⟩
    · rintro ⟨o', n', x, hm, hx⟩
      rcases mem_setOb hm with ⟨_, hm⟩ | ⟨rfl, rfl⟩
      · exact ⟨o', n', x, hm, hx⟩
      · exact ⟨o', n0, _, hn0, hx⟩
    · rintro ⟨o', n', x, hm, hx⟩
      by_cases hi : o' = i
      · subst hi
        have := h.uniq _ _ _ _ _ hm hn0
        subst this
        exact ⟨o', f.ctr, .box cs', List.mem_map.2 ⟨_, hm, by simp⟩, hx⟩
      · exact ⟨o', n', x, List.mem_map.2 ⟨_, hm, by simp [hi]⟩, hx⟩
  refine ⟨h.defers, fun s n x hm => ?_, fun o' n x hm => ?_, fun o' n x m y hx hy => ?_, h.rvs⟩
  · rw [hok]; exact h.fr s n x hm
  · rw [hok]
    rcases mem_setOb hm with ⟨_, hm⟩ | ⟨rfl, rfl⟩
    · exact h.ob o' n x hm
    · obtain ⟨b1, b2, vs, ty, b3, b4⟩ := h.ob _ _ _ hn0
      exact ⟨b1, b2, vs, ty, b3, hr vs b4⟩
  · rcases mem_setOb hx with ⟨hne, hx⟩ | ⟨e1, rfl⟩
    · rcases mem_setOb hy with ⟨_, hy⟩ | ⟨e2, _⟩
      · exact h.uniq _ _ _ _ _ hx hy
      · exact absurd e2 hne
    · rcases mem_setOb hy with ⟨hne, _⟩ | ⟨_, rfl⟩
      · exact absurd e1 hne
      · rfl
end

section
variable {X : Ctx} {f g : F} {a : Act} {w : World}
theorem Pins.ren {c : Cx} (h : Pins X c) {d e : Nat} (he : pinned e = false) : Pins X (c.ren d e) := fun o ho => by
  have hne : o ≠ e := by rintro rfl; rw [he] at ho; cases ho
  simp only [Cx.ren, if_neg hne]
  exact h o ho
theorem wk_sound {x : Wk} (hx : f.wk x = some g) : Ext f g ∧ ∀ a w, At X f a w → At X g a w := by
  cases x with
  | pick ss os =>
    injection hx with hx
    subst hx
    refine ⟨⟨Nat.le_refl _, fun s n x hm _ => (List.mem_filter.1 hm).1, fun o n x hm _ => (List.mem_filter.1 hm).1⟩, fun a w h => ?_⟩
    obtain ⟨⟨cx, ow, hs, hpin⟩, hb, hn⟩ := h
    refine ⟨⟨cx, ow, hs.weak (fun s n x hm => ⟨n, (List.mem_filter.1 hm).1⟩) (fun o n x hm => ⟨n, x, (List.mem_filter.1 hm).1, O.le_refl x⟩) (fun o n x m y hx hy => hs.uniq _ _ _ _ _ (List.mem_filter.1 hx).1 (List.mem_filter.1 hy).1), hpin⟩, hb, hn⟩
  | frz r =>
    injection hx with hx
    subst hx
    refine ⟨Ext.frzRow f r, fun a w h => ?_⟩
    obtain ⟨⟨cx, ow, hs, hpin⟩, hb, hn⟩ := h
    exact ⟨⟨cx, ow, hs.frzRow X.hsrc r, hpin⟩, hb, hn⟩
  | ren d e =>
    simp only [F.wk] at hx
    split at hx
    · rename_i hc
      injection hx with hx
      have hx : f.ren d e = g := hx
      subst hx
      refine ⟨Ext.ren f d e, fun a w h => ?_⟩
      obtain ⟨⟨cx, ow, hs, hpin⟩, hb, hn⟩ := h
      exact ⟨⟨_, _, hs.ren (unused_free hc.1), hpin.ren hc.2.2⟩, hb, hn⟩
    · cases hx
  | nilS s j i e k t =>
    simp only [F.wk] at hx
    split at hx
    · rename_i x hl
      split at hx
      · rename_i hj
        split at hx
        · rename_i hc
          obtain ⟨c1, c2, c3, c4⟩ := hc
          injection hx with hx
          subst hx
          refine ⟨⟨by simp [F.put]; omega, fun s' n y hm hlt => ?_, fun o n y hm hlt => ?_⟩, fun a w h => ?_⟩
          · simp only [F.put, List.mem_cons, List.mem_filter] at hm
            rcases hm with hm | hm
            · injection hm with _ hm; injection hm with e1 _; omega
            · exact hm.1
          · rcases List.mem_cons.1 hm with he | hm
            · injection he with _ he; injection he with e1 _; omega
            · exact hm
          · obtain ⟨⟨cx, ow, hs, hpin⟩, hb, hn⟩ := h
            have h1 := hs.addNil (m := f.ctr) (n := f.ctr + 1) (e := e) (unused_free c1) c3 (by rw [← tyLn_eq]; exact c4)
            refine ⟨⟨_, ow, h1.slot (x := .val x) hl fun v hv => setC_sound hv hj fun u hu => ?_, hpin.rv c2 _⟩, hb, hn⟩
            have hu : u = .slice none 0 0 := hu
            show u = (cx.setRv i (.slice none 0 0)).rv i
            rw [hu]; simp [Cx.setRv]
        · cases hx
      · cases hx
    · cases hx
  | nilB o j i e k t =>
    simp only [F.wk] at hx
    split at hx
    · rename_i cs hl
      split at hx
      · rename_i hj
        split at hx
        · rename_i hc
          obtain ⟨c1, c2, c3, c4⟩ := hc
          injection hx with hx
          subst hx
          have hne : o ≠ i := by
            obtain ⟨n, hm⟩ := obj_mem hl
            exact ((unused_free c1).2 _ _ _ hm).1
          refine ⟨⟨by simp [F.setOb]; omega, fun s' n y hm hlt => hm, fun o' n y hm hlt => ?_⟩, fun a w h => ?_⟩
          · simp only [F.setOb, List.mem_map] at hm
            obtain ⟨⟨o1, m, z⟩, hz, he⟩ := hm
            split at he
            · injection he with _ he; injection he with e1 _; omega
            · rw [← he]
              rcases List.mem_cons.1 hz with he2 | hz
              · injection he2 with _ he2; injection he2 with e1 _
                injection he with _ he; injection he with e2 _
                omega
              · exact hz
          · obtain ⟨⟨cx, ow, hs, hpin⟩, hb, hn⟩ := h
            have h1 := hs.addNil (m := f.ctr) (n := f.ctr + 1) (e := e) (unused_free c1) c3 (by rw [← tyLn_eq]; exact c4)
            have hl' : (⟨f.ctr + 1, f.fr, (i, f.ctr, .row e k t [] true) :: f.ob⟩ : F).obj o = some (.box cs) := by
              unfold F.obj at hl ⊢
              rw [List.find?_cons_of_neg (by simpa using Ne.symm hne)]
              exact hl
            refine ⟨⟨_, ow, h1.boxed hl' fun vs hv => hv.setR hj fun u hu => ?_, hpin.rv c2 _⟩, hb, hn⟩
            have hu : u = .slice none 0 0 := hu
            show u = (cx.setRv i (.slice none 0 0)).rv i
            rw [hu]; simp [Cx.setRv]
        · cases hx
      · cases hx
    · cases hx
theorem wks_sound : ∀ {xs : List Wk} {f g : F}, f.wks xs = some g → Ext f g ∧ ∀ a w, At X f a w → At X g a w
  | [], f, g, h => by injection h with h; subst h; exact ⟨.refl _, fun _ _ h => h⟩
  | x :: xs, f, g, h => by
    simp only [F.wks] at h
    split at h
    · rename_i k hk
      obtain ⟨h1, h2⟩ := wk_sound (X := X) hk
      obtain ⟨h3, h4⟩ := wks_sound h
      exact ⟨h1.trans h3, fun a w hat => h4 a w (h2 a w hat)⟩
    · cases h
end
end Go.V
set_option linter.unusedVariables false
set_option linter.unusedSectionVars false
namespace Go.V
open Go.Ab Go.RowKit

/-! ### what is handed over -/
inductive HandC (H : List (Nat × Nat)) : C → C → Prop
  | v {t : Ty} {y : den t} : HandC H (.v t y) (.v t y)
  | nil {t : Ty} : HandC H (.v (.sl t) []) .nil
  | row {q r : Nat} (h : (q, r) ∈ H) : HandC H (.row q) (.row r)
  | ptr {p o off : Nat} (h : (p, o) ∈ H) : HandC H (.ptr p off) (.ptr o off)
theorem HandC.mono {H H' : List (Nat × Nat)} {d x : C} (h : HandC H d x) (hs : ∀ e ∈ H, e ∈ H') : HandC H' d x := by
  cases h with
  | v => exact .v
  | nil => exact .nil
  | row h => exact .row (hs _ h)
  | ptr h => exact .ptr (hs _ h)
theorem handC_inj {ct : CT} {x : C} {tvs : List TV} {ps : List (Nat × Nat)} (h : handC ct x = some (tvs, ps)) (rest : List TV) : ∃ d, ct.inj (tvs ++ rest) = some (d, rest) ∧ HandC ps d x := by
  unfold handC at h
  split at h
  · rename_i t t' y
    obtain ⟨z, hz, he⟩ := Option.map_eq_some_iff.1 h
    injection he with e1 e2
    subst e1 e2
    obtain ⟨e, hz⟩ := castTy_some hz
    subst e
    have hz : y = z := hz
    subst hz
    exact ⟨.v t' y, by show (castTy t' t' y).map _ = _; rw [castTy_self]; rfl, .v⟩
  · rename_i t
    injection h with h
    injection h with e1 e2
    subst e1 e2
    exact ⟨.v (.sl t) [], by show (castTy (.sl t) (.sl t) []).map _ = _; rw [castTy_self]; rfl, .nil⟩
  · rename_i q r
    injection h with h
    injection h with e1 e2
    subst e1 e2
    exact ⟨.row q, rfl, .row (List.mem_singleton.2 rfl)⟩
  · rename_i p off o off'
    split at h
    · rename_i he
      subst he
      injection h with h
      injection h with e1 e2
      subst e1 e2
      exact ⟨.ptr p off, rfl, .ptr (List.mem_singleton.2 rfl)⟩
    · cases h
  · cases h
theorem handL_inj : ∀ {cts : List CT} {cs : List C} {tvs : List TV} {ps : List (Nat × Nat)}, handL cts cs = some (tvs, ps) → ∀ rest, ∃ ds, injL cts (tvs ++ rest) = some (ds, rest) ∧ All2 (HandC ps) ds cs
  | [], [], tvs, ps, h, rest => by injection h with h; injection h with e1 e2; subst e1 e2; exact ⟨[], rfl, .nil⟩
  | [], _ :: _, tvs, ps, h, rest => by cases h
  | _ :: _, [], tvs, ps, h, rest => by cases h
  | ct :: cts, x :: xs, tvs, ps, h, rest => by
    simp only [handL] at h
    split at h
    · rename_i a p b q h1 h2
      injection h with h
      injection h with e1 e2
      subst e1 e2
      obtain ⟨ds, g1, g2⟩ := handL_inj h2 rest
      obtain ⟨d, g3, g4⟩ := handC_inj h1 (b ++ rest)
      refine ⟨d :: ds, ?_, .cons (g4.mono fun e he => List.mem_append_left _ he) (g2.mono fun d x _ hr => hr.mono fun e he => List.mem_append_right _ he)⟩
      rw [List.append_assoc]
      simp [injL, g3, g1]
    · cases h
def HandA (H : List (Nat × Nat)) : A → A → Prop
  | .one d, .one x => HandC H d x
  | .agg ds, .agg xs => All2 (HandC H) ds xs
  | _, _ => False
theorem HandA.mono {H H' : List (Nat × Nat)} {d x : A} (h : HandA H d x) (hs : ∀ e ∈ H, e ∈ H') : HandA H' d x := by
  cases d with
  | one d => cases x with
    | one x => exact HandC.mono h hs
    | agg x => exact h
  | agg d => cases x with
    | one x => exact h
    | agg x => exact All2.mono h fun _ _ _ hr => HandC.mono hr hs
inductive HandR (f : F) (H : List (Nat × Nat)) : Nat → List (Nat × Nat × S) → List Operand → Prop
  | nil {i : Nat} : HandR f H i [] []
  | cons {i : Nat} {d y : A} {x : Operand} {fr : List (Nat × Nat × S)} {xs : List Operand} (hx : f.get x = some (.val y)) (h : HandA H d y) (hs : HandR f H (i + 1) fr xs) : HandR f H i ((i, 0, .val d) :: fr) (x :: xs)
theorem HandR.mono {f : F} {H H' : List (Nat × Nat)} (hs : ∀ e ∈ H, e ∈ H') {i : Nat} {fr : List (Nat × Nat × S)} {xs : List Operand} (h : HandR f H i fr xs) : HandR f H' i fr xs := by
  induction h with
  | nil => exact .nil
  | cons hx h _ ih => exact .cons hx (h.mono hs) ih
theorem HandR.mem {f : F} {H : List (Nat × Nat)} {i : Nat} {fr : List (Nat × Nat × S)} {xs : List Operand} (h : HandR f H i fr xs) : ∀ e ∈ fr, ∃ j x d y, e.1 = i + j ∧ xs[j]? = some x ∧ f.get x = some (.val y) ∧ e.2.2 = .val d ∧ HandA H d y := by
  induction h with
  | nil => intro e he; cases he
  | cons hx ha hs ih =>
    intro e he
    rcases List.mem_cons.1 he with rfl | he
    · exact ⟨0, _, _, _, rfl, rfl, hx, rfl, ha⟩
    · obtain ⟨j, x, d, y, h1, h2, h3⟩ := ih e he
      exact ⟨j + 1, x, d, y, by omega, by simpa using h2, h3⟩
theorem HandR.length {f : F} {H : List (Nat × Nat)} {i : Nat} {fr : List (Nat × Nat × S)} {xs : List Operand} (h : HandR f H i fr xs) : fr.length = xs.length := by
  induction h with
  | nil => rfl
  | cons _ _ _ ih => simp [ih]
theorem handArgs_inj {f : F} : ∀ {i : Nat} {hs : List (Nat × ST)} {xs : List Operand} {tvs : List TV} {ps : List (Nat × Nat)}, handArgs f i hs xs = some (tvs, ps) → ∀ rest, ∃ fr, injFr F0 hs (tvs ++ rest) = some (fr, rest) ∧ HandR f ps i fr xs
  | i, [], [], tvs, ps, h, rest => by injection h with h; injection h with e1 e2; subst e1 e2; exact ⟨[], rfl, .nil⟩
  | i, [], _ :: _, tvs, ps, h, rest => by cases h
  | i, _ :: _, [], tvs, ps, h, rest => by cases h
  | i, (j, st) :: hs, x :: xs, tvs, ps, h, rest => by
    simp only [handArgs] at h
    split at h
    · rename_i hij
      subst hij
      split at h
      · rename_i a p b q h1 h2
        injection h with h
        injection h with e1 e2
        subst e1 e2
        obtain ⟨fr, g1, g2⟩ := handArgs_inj h2 rest
        have g2' := g2.mono (H' := p ++ q) fun e he => List.mem_append_right _ he
        unfold handS at h1
        split at h1
        · rename_i ct y hg
          obtain ⟨d, g3, g4⟩ := handC_inj h1 (b ++ rest)
          refine ⟨(i, 0, .val (.one d)) :: fr, ?_, .cons hg (show HandC _ d y from g4.mono fun e he => List.mem_append_left _ he) g2'⟩
          rw [List.append_assoc, injFr, g3]
          simp only [g1]
          rfl
        · rename_i cts ys hg
          obtain ⟨ds, g3, g4⟩ := handL_inj h1 (b ++ rest)
          refine ⟨(i, 0, .val (.agg ds)) :: fr, ?_, .cons hg (show All2 (HandC _) ds ys from g4.mono fun _ _ _ hr => hr.mono fun e he => List.mem_append_left _ he) g2'⟩
          rw [List.append_assoc, injFr, g3]
          simp only [g1]
          rfl
        · cases h1
      · cases h
    · cases h
inductive HandO (H : List (Nat × Nat)) : O → O → Prop
  | box {ds cs : List C} (h : All2 (HandC H) ds cs) : HandO H (.box ds) (.box cs)
  | row {e k : Nat} {t : Ty} {l : List (den t)} {deep : Bool} : HandO H (.row e k t l false) (.row e k t l deep)
theorem find_pair {ps : List (Nat × Nat)} {p : Nat} {e : Nat × Nat} (h : ps.find? (fun e => e.1 == p) = some e) : (p, e.2) ∈ ps := by
  have h1 := List.mem_of_find?_eq_some h
  have h2 : e.1 = p := by simpa using List.find?_some h
  rw [← h2]; exact h1
theorem handObs_inj {f : F} : ∀ {hs : List (Nat × OT)} {ps H : List (Nat × Nat)} {tvs : List TV}, handObs f hs ps = some (tvs, H) → (∀ e ∈ ps, e ∈ H) ∧ ∀ rest, ∃ ob, injOb F0 hs (tvs ++ rest) = some (ob, rest) ∧ ob.map (·.1) = hs.map (·.1) ∧ ∀ e ∈ ob, ∃ o x, (e.1, o) ∈ H ∧ f.obj o = some x ∧ HandO H e.2.2 x
  | [], ps, H, tvs, h => by
    injection h with h
    injection h with e1 e2
    subst e1 e2
    exact ⟨fun e he => he, fun rest => ⟨[], rfl, rfl, fun e he => by cases he⟩⟩
  | (p, .box cts) :: hs, ps, H, tvs, h => by
    simp only [handObs] at h
    split at h
    · rename_i e hf
      split at h
      · rename_i cs hob
        split at h
        · rename_i a qs hl
          split at h
          · rename_i b r hr
            injection h with h
            injection h with e1 e2
            subst e1 e2
            obtain ⟨g1, g2⟩ := handObs_inj hr
            refine ⟨fun e he => g1 e (List.mem_append_left _ he), fun rest => ?_⟩
            obtain ⟨ob, g3, g4, g5⟩ := g2 rest
            obtain ⟨ds, g6, g7⟩ := handL_inj hl (b ++ rest)
            refine ⟨(p, 0, .box ds) :: ob, ?_, by simp [g4], fun e' he' => ?_⟩
            · rw [List.append_assoc, injOb, g6]
              simp only [g3]
              rfl
            · rcases List.mem_cons.1 he' with rfl | he'
              · exact ⟨e.2, _, g1 _ (List.mem_append_left _ (find_pair hf)), hob, .box (g7.mono fun _ _ _ hr => hr.mono fun e he => g1 e (List.mem_append_right _ he))⟩
              · exact g5 e' he'
          · cases h
        · cases h
      · cases h
    · cases h
  | (p, .row e k t deep) :: hs, ps, H, tvs, h => by
    simp only [handObs] at h
    split at h
    · rename_i z hf
      split at h
      · rename_i e' k' t' l dp hob
        split at h
        · rename_i hc
          obtain ⟨rfl, rfl, rfl, rfl⟩ := hc
          split at h
          · rename_i b r hr
            injection h with h
            injection h with e1 e2
            subst e1 e2
            obtain ⟨g1, g2⟩ := handObs_inj hr
            refine ⟨g1, fun rest => ?_⟩
            obtain ⟨ob, g3, g4, g5⟩ := g2 rest
            refine ⟨(p, 0, .row e k t l false) :: ob, ?_, by simp [g4], fun e' he' => ?_⟩
            · show injOb F0 ((p, .row e k t false) :: hs) (⟨.sl t, l⟩ :: (b ++ rest)) = _
              simp only [injOb, castTy_self, g3]
              rfl
            · rcases List.mem_cons.1 he' with rfl | he'
              · exact ⟨z.2, _, g1 _ (find_pair hf), hob, .row⟩
              · exact g5 e' he'
          · cases h
        · cases h
      · cases h
    · cases h
  | (p, .keep) :: hs, ps, H, tvs, h => by simp [handObs] at h
  | (p, .win _ _) :: hs, ps, H, tvs, h => by simp [handObs] at h

/-! ### the callee's frame -/
section
variable {M src : Nat → Prop} {c : Cx} {ow : Nat → Option Nat} {f : F} {a : Act} {w : World}

def O.isWin : O → Bool
  | .win _ _ _ => true
  | _ => false
/-- Blocks of what is handed over. -/
def HB (c : Cx) (ow : Nat → Option Nat) (f : F) (H : List (Nat × Nat)) (b : Nat) : Prop := ∃ e ∈ H, ∃ n x, (e.2, n, x) ∈ f.ob ∧ x.isWin = false ∧ x.blk c ow e.2 b
theorem HB.spec (h : SimC M src c ow f a w) {H : List (Nat × Nat)} {b : Nat} (hb : HB c ow f H b) : b < w.heap.size ∧ M b ∧ live c ow f.ob b ∧ ∃ e ∈ H, ow b = some e.2 := by
  obtain ⟨e, he, n, x, hm, hw, hx⟩ := hb
  have hob := h.ob _ _ _ hm
  refine ⟨hob.lt (fun k t l hc => by rw [hc] at hw; cases hw) hx, ?_, ⟨_, _, _, hm, hx⟩, e, he, hob.own hx⟩
  cases x with
  | box cs => have hx : c.loc e.2 = b := hx; subst hx; exact hob.1
  | row e' k t l deep => exact (hob.2.2.1 b hx).1
  | win _ _ _ => cases hw

def cxP (c : Cx) (H : List (Nat × Nat)) : Cx := ⟨fun p => match H.find? fun e => e.1 == p with
  | some e => c.loc e.2
  | none => c.loc p, fun p => match H.find? fun e => e.1 == p with
  | some e => c.rv e.2
  | none => c.rv p⟩
open Classical in
noncomputable def owP (ow : Nat → Option Nat) (H : List (Nat × Nat)) (b : Nat) : Option Nat := (H.find? fun e => decide (ow b = some e.2)).map (·.1)
theorem cxP_at {H : List (Nat × Nat)} (hn : (H.map (·.1)).Nodup) {p o : Nat} (h : (p, o) ∈ H) : (cxP c H).loc p = c.loc o ∧ (cxP c H).rv p = c.rv o := by
  have := find_fst_nodup hn h
  unfold cxP
  simp [this]
theorem owP_at {H : List (Nat × Nat)} (hn : (H.map (·.2)).Nodup) {p o b : Nat} (h : (p, o) ∈ H) (hb : ow b = some o) : owP ow H b = some p := by
  unfold owP
  have : H.find? (fun e => decide (ow b = some e.2)) = some (p, o) := by
    induction H with
    | nil => cases h
    | cons e H ih =>
      simp only [List.map_cons, List.nodup_cons] at hn
      rcases List.mem_cons.1 h with rfl | h
      · rw [List.find?_cons_of_pos (by simpa using hb)]
      · rw [List.find?_cons_of_neg]
        · exact ih hn.2 h
        · rw [hb]
          simp only [decide_eq_true_eq, Option.some.injEq]
          rintro rfl
          exact hn.1 (List.mem_map.2 ⟨(p, e.2), h, rfl⟩)
  rw [this]; rfl

theorem hand_sim (h : SimC M src c ow f a w) (hM : ∀ b, w.heap.size ≤ b → ow b = none) {H : List (Nat × Nat)} (hn1 : (H.map (·.1)).Nodup) (hn2 : (H.map (·.2)).Nodup) {fr : List (Nat × Nat × S)} {ob : List (Nat × Nat × O)} {xs : List Operand} (ha : HandR f H 0 fr xs) (hnd : (ob.map (·.1)).Nodup)
    (ho : ∀ e ∈ ob, ∃ o x, (e.1, o) ∈ H ∧ f.obj o = some x ∧ HandO H e.2.2 x) :
    SimC (fun b => w.heap.size ≤ b ∨ HB c ow f H b) (fun b => (w.heap.size ≤ b ∨ HB c ow f H b) ∨ okB src c ow f.ob b) (cxP c H) (owP ow H) ⟨1, fr, ob⟩ (actL (xs.map a.eval)) w := by
  have hlive : ∀ b, live (cxP c H) (owP ow H) ob b → HB c ow f H b := by
    rintro b ⟨p, n, x', hm, hb⟩
    obtain ⟨o, x, h1, h2, h3⟩ := ho _ hm
    obtain ⟨n', hx⟩ := obj_mem h2
    obtain ⟨k1, k2⟩ := cxP_at (c := c) hn1 h1
    cases h3 with
    | box _ => exact ⟨_, h1, n', _, hx, rfl, by have hb : (cxP c H).loc p = b := hb; rw [k1] at hb; exact hb⟩
    | row => exact ⟨_, h1, n', _, hx, rfl, by have hb : ((cxP c H).rv p).ownBlock = some b := hb; rw [k2] at hb; exact hb⟩
  have hok : ∀ b, okB src c ow f.ob b → okB (fun b => (w.heap.size ≤ b ∨ HB c ow f H b) ∨ okB src c ow f.ob b) (cxP c H) (owP ow H) ob b := fun b hb => ⟨.inr hb, fun hl => hb.2 (HB.spec h (hlive b hl)).2.2.1⟩
  have hC : ∀ (v : Value) (d x : C), HandC H d x → RelC c ow w (okB src c ow f.ob) v x → RelC (cxP c H) (owP ow H) w (okB (fun b => (w.heap.size ≤ b ∨ HB c ow f H b) ∨ okB src c ow f.ob b) (cxP c H) (owP ow H) ob) v d := by
    intro v d x hd hr
    cases hd with
    | v =>
      obtain ⟨G, g1, g2⟩ := hr
      exact ⟨G, g1, fun b hb => hok b (g2 b hb)⟩
    | nil =>
      have hr : v = .slice none 0 0 := hr
      subst hr
      exact ⟨[], .nil (Nat.zero_le _), by simp⟩
    | row h1 =>
      have hr : v = c.rv _ := hr
      show v = (cxP c H).rv _
      rw [(cxP_at hn1 h1).2]; exact hr
    | ptr h1 =>
      have hr : v = .pointer (some ⟨c.loc _, _, none⟩) := hr
      show v = .pointer (some ⟨(cxP c H).loc _, _, none⟩)
      rw [(cxP_at hn1 h1).1]; exact hr
  have hCs : ∀ {vs : List Value} {ds zs : List C}, All2 (RelC c ow w (okB src c ow f.ob)) vs zs → All2 (HandC H) ds zs → All2 (RelC (cxP c H) (owP ow H) w (okB (fun b => (w.heap.size ≤ b ∨ HB c ow f H b) ∨ okB src c ow f.ob b) (cxP c H) (owP ow H) ob)) vs ds := by
    intro vs ds zs hv
    induction hv generalizing ds with
    | nil => intro hd; cases hd; exact .nil
    | cons h1 h2 ih =>
      intro hd
      cases hd with
      | cons k1 k2 => exact .cons (hC _ _ _ k1 h1) (ih k2)
  refine ⟨rfl, fun s n x hm => ?_, fun p n x' hm => ?_, fun o' n x m y hx hy => ?_, fun q => ?_⟩
  · obtain ⟨j, op, d', y, h1, h2, h3, h4, h5⟩ := ha.mem _ hm
    simp only [Nat.zero_add] at h1
    have h4 : x = .val d' := h4
    subst h1 h4
    have hr : RelA c ow w (okB src c ow f.ob) (a.eval op) y := h.get h3
    refine ⟨a.eval op, by simp [actL, h2], ?_⟩
    cases d' with
    | one d' =>
      cases y with
      | one z => exact hC _ _ _ h5 hr
      | agg _ => cases h5
    | agg ds =>
      cases y with
      | one z => cases h5
      | agg zs =>
        obtain ⟨vs, hvs, hall⟩ := hr
        exact ⟨vs, hvs, hCs hall h5⟩
  · obtain ⟨o, x, h1, h2, h3⟩ := ho _ hm
    obtain ⟨n', hx⟩ := obj_mem h2
    have hob := h.ob _ _ _ hx
    obtain ⟨k1, k2⟩ := cxP_at (c := c) hn1 h1
    cases h3 with
    | @box ds cs hall =>
      obtain ⟨b1, b2, vs, ty, b3, b4⟩ := hob
      exact ⟨by rw [k1]; exact .inr ⟨_, h1, n', _, hx, rfl, rfl⟩, by rw [k1]; exact owP_at hn2 h1 b2, vs, ty, by rw [k1]; exact b3, hCs b4 hall⟩
    | @row e k t l deep =>
      obtain ⟨r0, r1, r2, us, G, r3, r4, r5, r6⟩ := hob
      refine ⟨r0, r1, fun g hg => ?_, us, G, by rw [k2]; exact r3, r4, fun b hb => hok b (r5 b hb), fun hd => by cases hd⟩
      rw [k2] at hg
      exact ⟨.inr ⟨_, h1, n', _, hx, rfl, hg⟩, owP_at hn2 h1 (r2 g hg).2⟩
  · have h1 := find_fst_nodup hnd hx
    have h2 := find_fst_nodup hnd hy
    rw [h1] at h2
    injection h2 with h2
    injection h2 with _ h2
    injection h2
  · show ∃ ad n k, (match H.find? fun e => e.1 == q with
      | some e => c.rv e.2
      | none => c.rv q) = _
    split
    · exact h.rvs _
    · exact h.rvs _
end

/-! ### what comes back -/
section
variable {f : F}
theorem scrubs_fr : ∀ {ids : List Nat} {f : F} {s n : Nat} {x : S}, (s, n, x) ∈ (f.scrubs ids).fr → (s, n, x) ∈ f.fr ∧ ∀ i ∈ ids, x.names i = false
  | [], f, s, n, x, h => ⟨h, by simp⟩
  | i :: ids, f, s, n, x, h => by
    obtain ⟨h1, h2⟩ := scrubs_fr (ids := ids) (f := f.scrub i) h
    have h1 := List.mem_filter.1 h1
    refine ⟨h1.1, fun j hj => ?_⟩
    rcases List.mem_cons.1 hj with rfl | hj
    · simpa using h1.2
    · exact h2 j hj
theorem scrubs_ob : ∀ {ids : List Nat} {f : F} {o n : Nat} {x : O}, (o, n, x) ∈ (f.scrubs ids).ob → o ∉ ids ∧ ∃ m y, (o, m, y) ∈ f.ob ∧ O.sc x y ∧ (∀ i ∈ ids, x.names i = false) ∧ (y.isSub = false → x.isSub = false)
  | [], f, o, n, x, h => ⟨by simp, n, x, h, .refl, by simp, id⟩
  | i :: ids, f, o, n, x, h => by
    obtain ⟨h1, m, y, hy, h2, h3, h4⟩ := scrubs_ob (ids := ids) (f := f.scrub i) h
    obtain ⟨hne, m', z, hz, rfl⟩ := scrub_mem' hy
    refine ⟨by simp only [List.mem_cons, not_or]; exact ⟨hne, h1⟩, m', z, hz, h2.trans (O.scrub_sc _ z), fun j hj => ?_, fun hz' => h4 (O.scrub_isSub hz')⟩
    rcases List.mem_cons.1 hj with rfl | hj
    · exact h2.names (O.scrub_names z _)
    · exact h3 j hj
theorem scrubs_uniq : ∀ {ids : List Nat} {f : F}, f.uniq → (f.scrubs ids).uniq
  | [], f, h => h
  | i :: ids, f, h => scrubs_uniq (ids := ids) (f := f.scrub i) (by
    intro o n x m y hx hy
    obtain ⟨_, _, x', hx', rfl⟩ := scrub_mem' hx
    obtain ⟨_, _, y', hy', rfl⟩ := scrub_mem' hy
    rw [h _ _ _ _ _ hx' hy'])
theorem Ext.scrubs : ∀ (ids : List Nat) (f : F), Ext f (f.scrubs ids)
  | [], f => .refl f
  | i :: ids, f => (Ext.scrub f i).trans (Ext.scrubs ids _)
theorem Ext.less (f : F) (H : List (Nat × Nat)) : Ext f (f.less H) := ⟨Nat.le_refl _, fun _ _ _ h _ => h, fun _ _ _ h _ => (List.mem_filter.1 h).1⟩
theorem Ext.give (f : F) (H : List (Nat × Nat)) (d : Nat) (es : List (Nat × Nat × O)) : Ext f (f.give H d es) := by
  refine ⟨Nat.le_succ _, fun _ _ _ h _ => h, fun o n x h hn => ?_⟩
  rcases List.mem_append.1 h with h | h
  · obtain ⟨e, _, he⟩ := List.mem_map.1 h
    injection he with _ he
    injection he with he _
    omega
  · exact h
end

theorem nodup_snd : ∀ {l : List (Nat × Nat)}, (l.map (·.2)).Nodup → ∀ {x y : Nat × Nat}, x ∈ l → y ∈ l → x.2 = y.2 → x = y
  | [], _, _, _, h, _, _ => by cases h
  | e :: l, hn, x, y, hx, hy, he => by
    rw [List.map_cons, List.nodup_cons] at hn
    obtain ⟨n1, n2⟩ := hn
    have key : ∀ z ∈ l, z.2 ≠ e.2 := fun z hz hc => n1 (hc ▸ List.mem_map_of_mem hz)
    rcases List.mem_cons.1 hx with h1 | h1
    · rcases List.mem_cons.1 hy with h2 | h2
      · rw [h1, h2]
      · rw [h1] at he; exact absurd he.symm (key y h2)
    · rcases List.mem_cons.1 hy with h2 | h2
      · rw [h2] at he; exact absurd he (key x h1)
      · exact nodup_snd n2 h1 h2 he
theorem okPostP_iff {H : List (Nat × Nat)} {d : Nat} {p : F} (h : okPostP H d p = true) : p.fr.map (·.1) = List.range p.fr.length ∧ (p.ob.map (·.1)).Nodup ∧ (∀ e ∈ p.ob, okOP H d (p.ob.map (·.1)) e = true) ∧ ∀ e ∈ p.fr, okSP (p.ob.map (·.1)) e.2.2 = true := by
  simp only [okPostP, Bool.and_eq_true, beq_iff_eq, List.all_eq_true] at h
  obtain ⟨h1, h2, h3, h4⟩ := h
  exact ⟨h1, nodupB_sound h2, h3, h4⟩
theorem okOP_iff {H : List (Nat × Nat)} {d : Nat} {ids : List Nat} {e : Nat × Nat × O} (h : okOP H d ids e = true) : okIP H d e.1 = true ∧ e.2.2.isWin = false ∧ ∀ cs, e.2.2 = .box cs → ∀ x ∈ cs, okCP ids x = true := by
  simp only [okOP, Bool.and_eq_true] at h
  obtain ⟨h1, h2⟩ := h
  obtain ⟨i, n, x⟩ := e
  cases x with
  | box cs => exact ⟨h1, rfl, fun cs' hc x hx => by cases hc; exact List.all_eq_true.1 h2 x hx⟩
  | row e k t l deep => exact ⟨h1, rfl, fun cs hc => by cases hc⟩
  | win _ _ _ => cases h2
theorem rho_new {H : List (Nat × Nat)} {d q : Nat} (h : pinned q = false) : rho H d q = callId d + q := by
  unfold rho
  have : H.find? (fun e => pinned e.1 && e.1 == q) = none := by
    rw [List.find?_eq_none]
    intro e he hc
    simp only [Bool.and_eq_true, beq_iff_eq] at hc
    rw [hc.2, h] at hc
    cases hc.1
  rw [this]
theorem rho_old {H : List (Nat × Nat)} {d q : Nat} (h : pinned q = true) (hm : q ∈ H.map (·.1)) : (q, rho H d q) ∈ H := by
  obtain ⟨e, he, rfl⟩ := List.mem_map.1 hm
  unfold rho
  cases hf : H.find? fun x => pinned x.1 && x.1 == e.1 with
  | none =>
    rw [List.find?_eq_none] at hf
    exact absurd (by simp [h]) (hf e he)
  | some z =>
    have h1 := List.mem_of_find?_eq_some hf
    have h2 := List.find?_some hf
    simp only [Bool.and_eq_true, beq_iff_eq] at h2
    show (e.1, z.2) ∈ H
    rw [← h2.2]; exact h1

section
variable {M src : Nat → Prop} {c : Cx} {ow : Nat → Option Nat} {f : F} {a : Act} {w : World}

/-- Contexts and owners of the joined frame. -/
theorem RelC.keepP {ok ok' : Nat → Prop} {c : Cx} {ow ow' : Nat → Option Nat} {w w' : World} {v : Value} {f : F} {H : List (Nat × Nat)} {x : C} (h : RelC c ow w ok v x) (hs : x.subOk f H = true) (kp : Keeps w w' ok ok')
    (hr : ∀ r, f.isRow r = true → r ∉ H.map (·.2) → (∀ g, (c.rv r).ownBlock = some g → w'.heap[g]? = w.heap[g]?) ∧ ∀ b, b < w.heap.size → ow b = some r → w'.heap[b]? = w.heap[b]? ∧ ow' b = some r) : RelC c ow' w' ok' v x := by
  cases x with
  | sub r k i off t y =>
    obtain ⟨g, b0, n, cap, h1, ⟨v0, h2, hpre, hex⟩, G, h3, h4⟩ := h
    simp only [C.subOk, Bool.and_eq_true, Bool.not_eq_true', List.contains_eq_mem, decide_eq_false_iff_not] at hs
    obtain ⟨k1, k2⟩ := hr r hs.1 hs.2
    exact ⟨g, b0, n, cap, h1, ⟨v0, (World.cell?_of_block (k1 g (by simp [h1, Value.ownBlock]))).trans h2, hpre, hex⟩, G, h3.frame fun b hb => (k2 b (h3.lt b hb) (h4 b hb)).1, fun b hb => (k2 b (h3.lt b hb) (h4 b hb)).2⟩
  | ip r k i off m j q =>
    obtain ⟨g, b0, n, cap, g2, b2, n2, cap2, h1, h2, h3⟩ := h
    simp only [C.subOk, Bool.and_eq_true, Bool.not_eq_true', List.contains_eq_mem, decide_eq_false_iff_not] at hs
    obtain ⟨k1, k2⟩ := hr r hs.1 hs.2
    exact ⟨g, b0, n, cap, g2, b2, n2, cap2, h1, (World.cell?_of_block (k1 g (by simp [h1, Value.ownBlock]))).trans h2, h3⟩
  | _ => exact RelC.keep h rfl kp
theorem RelS.keepP {ok ok' : Nat → Prop} {c : Cx} {ow ow' : Nat → Option Nat} {w w' : World} {v : Value} {f : F} {H : List (Nat × Nat)} {x : S} (h : RelS c ow w ok v x) (hs : x.subOk f H = true) (kp : Keeps w w' ok ok')
    (hr : ∀ r, f.isRow r = true → r ∉ H.map (·.2) → (∀ g, (c.rv r).ownBlock = some g → w'.heap[g]? = w.heap[g]?) ∧ ∀ b, b < w.heap.size → ow b = some r → w'.heap[b]? = w.heap[b]? ∧ ow' b = some r) : RelS c ow' w' ok' v x := by
  have hA : ∀ (v : Value) (x : A), RelA c ow w ok v x → x.subOk f H = true → RelA c ow' w' ok' v x := fun v x h hs => by
    cases x with
    | one t => exact RelC.keepP h hs kp hr
    | agg ts =>
      simp only [A.subOk, List.all_eq_true] at hs
      obtain ⟨vs, hv, ha⟩ := h
      exact ⟨vs, hv, ha.mono fun a b hb hr' => hr'.keepP (hs b hb) kp hr⟩
  cases x with
  | val x => exact hA v x h hs
  | tup xs =>
    simp only [S.subOk, List.all_eq_true] at hs
    obtain ⟨vs, hv, ha⟩ := h
    exact ⟨vs, hv, ha.mono fun a b hb hr' => hA a b hr' (hs b hb)⟩
  | un => exact h
theorem isRow_obj {f : F} {r : Nat} (h : f.isRow r = true) : ∃ e k, ∃ (t : Ty) (l : List (den t)), ∃ deep, f.obj r = some (.row e k t l deep) := by
  unfold F.isRow at h
  split at h
  · rename_i e k t l deep ho; exact ⟨e, k, t, l, deep, ho⟩
  · cases h
theorem give_sound (h : SimC M src c ow f a w) {H : List (Nat × Nat)} (hso : f.subOk H = true) (hown0 : ∀ b, w.heap.size ≤ b → ow b = none) (hfresh : ∀ b, w.heap.size ≤ b → M b) (hsrc : ∀ b, M b → src b) (hn1 : (H.map (·.1)).Nodup) (hn2 : (H.map (·.2)).Nodup) {c' : Cx} {ow' : Nat → Option Nat} {p : F} {a' : Act} {w' : World} {d : Nat}
    (hp : SimC (fun b => w.heap.size ≤ b ∨ HB c ow f H b) (fun b => (w.heap.size ≤ b ∨ HB c ow f H b) ∨ okB src c ow f.ob b) c' ow' p a' w') (hbel : BelowM (fun b => w.heap.size ≤ b ∨ HB c ow f H b) w w') (hpin : ∀ o, pinned o = true → c'.loc o = (cxP c H).loc o ∧ c'.rv o = (cxP c H).rv o) (hpost : okPostP H d p = true) :
    ∃ c'' ow'', SimC M src c'' ow'' (((f.scrubs (killIds H d p)).less H).give H d p.ob) a w' ∧ (∀ o, pinned o = true → c''.loc o = c.loc o ∧ c''.rv o = c.rv o) ∧
      ∀ v x, okAP (p.ob.map (·.1)) x = true → RelA c' ow' w' (okB (fun b => (w.heap.size ≤ b ∨ HB c ow f H b) ∨ okB src c ow f.ob b) c' ow' p.ob) v x → RelA c'' ow'' w' (okB src c'' ow'' (((f.scrubs (killIds H d p)).less H).give H d p.ob).ob) v (shAP H d x) := by
  classical
  obtain ⟨hp1, hp2, hp3, hp4⟩ := okPostP_iff hpost
  generalize hgob : (((f.scrubs (killIds H d p)).less H).give H d p.ob) = g
  have hgfr : g.fr = (f.scrubs (killIds H d p)).fr := by rw [← hgob]; rfl
  have hgo : g.ob = p.ob.map (fun e => (rho H d e.1, ((f.scrubs (killIds H d p)).less H).ctr, shOP H d e.2.2)) ++ ((f.scrubs (killIds H d p)).less H).ob := by rw [← hgob]; rfl
  let isN : Nat → Prop := fun o => ∃ e ∈ p.ob, pinned e.1 = false ∧ o = callId d + e.1
  let c'' : Cx := ⟨fun o => if isN o then c'.loc (o - callId d) else c.loc o, fun o => if isN o then c'.rv (o - callId d) else c.rv o⟩
  let M' : Nat → Prop := fun b => w.heap.size ≤ b ∨ HB c ow f H b
  let ow'' : Nat → Option Nat := fun b => if M' b then (p.ob.find? fun e => decide (ow' b = some e.1)).map (fun e => rho H d e.1) else ow b
  have hNpin : ∀ o, isN o → pinned o = false := fun o ⟨e, he, h1, h2⟩ => by
    have := (okOP_iff (hp3 e he)).1
    simp only [okIP, h1, cond_false, Bool.and_eq_true, Bool.not_eq_true'] at this
    rw [h2]; exact this.1
  have hNbox : ∀ q ∈ H, pinned q.1 = true → ¬ isN q.2 := fun q hq hpq ⟨e, he, h1, h2⟩ => by
    have := (okOP_iff (hp3 e he)).1
    simp only [okIP, h1, cond_false, Bool.and_eq_true, Bool.not_eq_true', List.any_eq_false] at this
    exact this.2 q hq (by simp [hpq, h2])
  have hold : ∀ e ∈ p.ob, pinned e.1 = true → (e.1, rho H d e.1) ∈ H := fun e he h1 => by
    have := (okOP_iff (hp3 e he)).1
    simp only [okIP, h1, cond_true, List.contains_iff_mem] at this
    exact rho_old h1 this
  have hcO : ∀ o, ¬ isN o → c''.loc o = c.loc o ∧ c''.rv o = c.rv o := fun o ho => ⟨if_neg ho, if_neg ho⟩
  have hcN : ∀ e ∈ p.ob, c''.loc (rho H d e.1) = c'.loc e.1 ∧ c''.rv (rho H d e.1) = c'.rv e.1 := fun e he => by
    cases hpe : pinned e.1 with
    | true =>
      have hm := hold e he hpe
      obtain ⟨k1, k2⟩ := hcO _ (hNbox _ hm hpe)
      obtain ⟨k3, k4⟩ := hpin e.1 hpe
      obtain ⟨k5, k6⟩ := cxP_at (c := c) hn1 hm
      exact ⟨by rw [k1, k3, k5], by rw [k2, k4, k6]⟩
    | false =>
      rw [rho_new hpe]
      have : isN (callId d + e.1) := ⟨e, he, hpe, rfl⟩
      have e1 : callId d + e.1 - callId d = e.1 := by omega
      constructor
      · show (if isN (callId d + e.1) then c'.loc (callId d + e.1 - callId d) else _) = _
        rw [if_pos this, e1]
      · show (if isN (callId d + e.1) then c'.rv (callId d + e.1 - callId d) else _) = _
        rw [if_pos this, e1]
  have hinj : ∀ e ∈ p.ob, ∀ e' ∈ p.ob, rho H d e.1 = rho H d e'.1 → e.1 = e'.1 := fun e he e' he' hr => by
    cases h1 : pinned e.1 with
    | true =>
      have m1 := hold e he h1
      cases h2 : pinned e'.1 with
      | true =>
        have m2 := hold e' he' h2
        rw [hr] at m1
        exact (Prod.mk.inj (nodup_snd hn2 m1 m2 rfl)).1
      | false =>
        exact absurd ⟨e', he', h2, by rw [hr, rho_new h2]⟩ (hNbox _ m1 h1)
    | false =>
      cases h2 : pinned e'.1 with
      | true =>
        have m2 := hold e' he' h2
        exact absurd ⟨e, he, h1, by rw [← hr, rho_new h1]⟩ (hNbox _ m2 h2)
      | false => rw [rho_new h1, rho_new h2] at hr; omega
  have howN : ∀ b, M' b → ∀ e ∈ p.ob, ow' b = some e.1 → ow'' b = some (rho H d e.1) := fun b hb e he h1 => by
    show (if M' b then _ else _) = _
    rw [if_pos hb]
    have : p.ob.find? (fun e => decide (ow' b = some e.1)) = some e := by
      rw [h1]
      have : (fun x : Nat × Nat × O => decide (some e.1 = some x.1)) = fun x => x.1 == e.1 := by
        funext x
        rw [Bool.eq_iff_iff]
        simp only [decide_eq_true_eq, Option.some.injEq, beq_iff_eq]
        exact eq_comm
      rw [this]
      exact find_fst_nodup hp2 he
    rw [this]; rfl
  have howO : ∀ b, ¬ M' b → ow'' b = ow b := fun b hb => if_neg hb
  have howI : ∀ b o, ow'' b = some o → (¬ M' b ∧ ow b = some o) ∨ (M' b ∧ ∃ e ∈ p.ob, o = rho H d e.1) := fun b o h1 => by
    by_cases hb : M' b
    · have h1 : (if M' b then (p.ob.find? fun e => decide (ow' b = some e.1)).map (fun e => rho H d e.1) else ow b) = some o := h1
      rw [if_pos hb] at h1
      obtain ⟨e, he, h2⟩ := Option.map_eq_some_iff.1 h1
      exact .inr ⟨hb, e, List.mem_of_find?_eq_some he, h2.symm⟩
    · rw [howO b hb] at h1; exact .inl ⟨hb, h1⟩
  -- what stays of the caller's objects
  have hf2 : ∀ o n x, (o, n, x) ∈ ((f.scrubs (killIds H d p)).less H).ob → ¬ isN o ∧ o ∉ H.map (·.2) ∧ ∃ m y, (o, m, y) ∈ f.ob ∧ O.sc x y ∧ (∀ i, isN i → x.names i = false) ∧ (y.isSub = false → x.isSub = false) := by
    intro o n x hm
    obtain ⟨hm1, hm2⟩ := List.mem_filter.1 hm
    obtain ⟨k1, m, y, k2, k3, k4, k5⟩ := scrubs_ob hm1
    simp only [killIds, List.mem_append, not_or] at k1
    refine ⟨?_, ?_, m, y, k2, k3, ?_, k5⟩
    · rintro ⟨e, he, h1, h2⟩
      exact k1.2 (List.mem_map.2 ⟨e, List.mem_filter.2 ⟨he, by simp [h1]⟩, h2.symm⟩)
    · intro hc
      obtain ⟨q, hq, h1⟩ := List.mem_map.1 hc
      cases hpq : pinned q.1 with
      | true =>
        simp only [Bool.not_eq_true', List.any_eq_false] at hm2
        exact hm2 q hq (by simp [hpq, h1])
      | false => exact k1.1 (List.mem_map.2 ⟨q, List.mem_filter.2 ⟨hq, by simp [hpq]⟩, h1⟩)
    · rintro i ⟨e, he, h1, h2⟩
      exact k4 i (by simp only [killIds, List.mem_append]; exact .inr (List.mem_map.2 ⟨e, List.mem_filter.2 ⟨he, by simp [h1]⟩, h2.symm⟩))
  have hdis : ∀ o n x, (o, n, x) ∈ ((f.scrubs (killIds H d p)).less H).ob → ∀ e ∈ p.ob, o ≠ rho H d e.1 := fun o n x hm e he hc => by
    obtain ⟨k1, k2, _⟩ := hf2 o n x hm
    cases hpe : pinned e.1 with
    | true => exact k2 (List.mem_map.2 ⟨_, hold e he hpe, hc.symm⟩)
    | false => exact k1 ⟨e, he, hpe, by rw [hc, rho_new hpe]⟩
  have hHB : ∀ b o, HB c ow f H b → ow b = some o → o ∈ H.map (·.2) := fun b o hb ho => by
    obtain ⟨_, _, _, e, he, h1⟩ := hb.spec h
    rw [ho] at h1
    injection h1 with h1
    exact List.mem_map.2 ⟨e, he, h1.symm⟩
  have hM'M : ∀ b, M' b → M b := fun b hb => by
    rcases hb with hb | hb
    · exact hfresh b hb
    · exact (hb.spec h).2.1
  have hpblk : ∀ e ∈ p.ob, ∀ b, (shOP H d e.2.2).blk c'' ow'' (rho H d e.1) b → M' b ∧ live c' ow' p.ob b := fun e he b hb => by
    obtain ⟨i, n, x⟩ := e
    obtain ⟨k1, k2⟩ := hcN _ he
    have hob := hp.ob _ _ _ he
    cases x with
    | box cs =>
      have hb : c''.loc (rho H d i) = b := hb
      rw [k1] at hb
      exact ⟨hb ▸ hob.1, ⟨_, _, _, he, hb⟩⟩
    | row e' k t l deep =>
      have hb : (c''.rv (rho H d i)).ownBlock = some b := hb
      rw [k2] at hb
      exact ⟨(hob.2.2.1 b hb).1, ⟨_, _, _, he, hb⟩⟩
    | win _ _ _ => have := (okOP_iff (hp3 _ he)).2.1; cases this
  have hfblk : ∀ o n x, (o, n, x) ∈ ((f.scrubs (killIds H d p)).less H).ob → ∀ b, x.blk c'' ow'' o b → ¬ M' b ∧ b < w.heap.size ∧ live c ow f.ob b := fun o n x hm b hb => by
    obtain ⟨k1, k2, m, y, k3, k4, _, _⟩ := hf2 o n x hm
    have hyb := k4.le.blk hb
    have hob := h.ob _ _ _ k3
    obtain ⟨q1, q2⟩ := hcO o k1
    have key : y.blk c ow o b → ow b = some o := fun hy => hob.own hy
    have hfin : y.blk c ow o b → ¬ M' b ∧ b < w.heap.size ∧ live c ow f.ob b := fun hy => by
      have ho := key hy
      have hlt : b < w.heap.size := by
        rcases Nat.lt_or_ge b w.heap.size with h1 | h1
        · exact h1
        · rw [hown0 b h1] at ho; cases ho
      refine ⟨fun hm' => ?_, hlt, ⟨_, _, _, k3, hy⟩⟩
      rcases hm' with h1 | h1
      · omega
      · exact k2 (hHB b o h1 ho)
    cases y with
    | box cs => exact hfin (by have hyb : c''.loc o = b := hyb; rw [q1] at hyb; exact hyb)
    | row e' k t l deep => exact hfin (by have hyb : (c''.rv o).ownBlock = some b := hyb; rw [q2] at hyb; exact hyb)
    | win k t l =>
      have hyb : ow'' b = some o := hyb
      rcases howI b o hyb with ⟨_, h2⟩ | ⟨_, e, he, h2⟩
      · exact hfin h2
      · exact absurd h2 (hdis o n x hm e he)
  have hlv : ∀ b, live c'' ow'' g.ob b → (¬ M' b ∧ b < w.heap.size ∧ live c ow f.ob b) ∨ (M' b ∧ live c' ow' p.ob b) := by
    rintro b ⟨o, n, x, hm, hx⟩
    rw [hgo] at hm
    rcases List.mem_append.1 hm with hm | hm
    · obtain ⟨e, he, h1⟩ := List.mem_map.1 hm
      injection h1 with e1 h1
      injection h1 with _ e2
      subst e1 e2
      exact .inr (hpblk e he b hx)
    · exact .inl (hfblk o n x hm b hx)
  have hokO : ∀ b, b < w.heap.size → okB src c ow f.ob b → okB src c'' ow'' g.ob b := fun b hlt hok => ⟨hok.1, fun hl => by
    rcases hlv b hl with ⟨_, _, h1⟩ | ⟨h1, _⟩
    · exact hok.2 h1
    · rcases h1 with h1 | h1
      · omega
      · exact hok.2 (h1.spec h).2.2.1⟩
  have hokN : ∀ b, okB (fun b => (w.heap.size ≤ b ∨ HB c ow f H b) ∨ okB src c ow f.ob b) c' ow' p.ob b → okB src c'' ow'' g.ob b := fun b hok => by
    refine ⟨?_, fun hl => ?_⟩
    · rcases hok.1 with h1 | h1
      · exact hsrc b (hM'M b h1)
      · exact h1.1
    · rcases hlv b hl with ⟨h1, _, h2⟩ | ⟨_, h2⟩
      · rcases hok.1 with h3 | h3
        · exact h1 h3
        · exact h3.2 h2
      · exact hok.2 h2
  have hblk : ∀ b, b < w.heap.size → ¬ M' b → w'.heap[b]? = w.heap[b]? := fun b hlt hb => hbel.block b hlt hb
  have kp : Keeps w w' (okB src c ow f.ob) (okB src c'' ow'' g.ob) := ⟨hbel.size, fun b hlt hok => hblk b hlt fun hm => by
    rcases hm with h1 | h1
    · omega
    · exact hok.2 (h1.spec h).2.2.1, hokO⟩
  have hC : ∀ (v : Value) (x : C), okCP (p.ob.map (·.1)) x = true → RelC c' ow' w' (okB (fun b => (w.heap.size ≤ b ∨ HB c ow f H b) ∨ okB src c ow f.ob b) c' ow' p.ob) v x → RelC c'' ow'' w' (okB src c'' ow'' g.ob) v (shCP H d x) := by
    intro v x hx hr
    cases x with
    | v t y =>
      obtain ⟨G, g1, g2⟩ := hr
      exact ⟨G, g1, fun b hb => hokN b (g2 b hb)⟩
    | nil => exact hr
    | row r =>
      have hx : r ∈ p.ob.map (·.1) := by simpa [okCP] using hx
      obtain ⟨e, he, rfl⟩ := List.mem_map.1 hx
      have hr : v = c'.rv e.1 := hr
      show v = c''.rv (rho H d e.1)
      rw [(hcN e he).2]; exact hr
    | ptr o off =>
      have hx : o ∈ p.ob.map (·.1) := by simpa [okCP] using hx
      obtain ⟨e, he, rfl⟩ := List.mem_map.1 hx
      have hr : v = .pointer (some ⟨c'.loc e.1, off, none⟩) := hr
      show v = .pointer (some ⟨c''.loc (rho H d e.1), off, none⟩)
      rw [(hcN e he).1]; exact hr
    | any => trivial
    | _ => cases hx
  have hCs : ∀ {us : List Value} {zs : List C}, All2 (RelC c' ow' w' (okB (fun b => (w.heap.size ≤ b ∨ HB c ow f H b) ∨ okB src c ow f.ob b) c' ow' p.ob)) us zs → (∀ z ∈ zs, okCP (p.ob.map (·.1)) z = true) → All2 (RelC c'' ow'' w' (okB src c'' ow'' g.ob)) us (zs.map (shCP H d)) := fun hu hz => hu.map_right2 fun u z hm hr => hC u z (hz z hm) hr
  refine ⟨c'', ow'', ⟨h.defers, fun s n x hm => ?_, fun o n x hm => ?_, fun o n x m y hx hy => ?_, fun r => ?_⟩, fun o ho => hcO o fun hN => (by rw [hNpin o hN] at ho; cases ho), fun v x hx hr => ?_⟩
  · rw [hgfr] at hm
    obtain ⟨h1, h2⟩ := scrubs_fr hm
    obtain ⟨v, hv, h3⟩ := h.fr s n x h1
    have hxs : x.subOk f H = true := by
      simp only [F.subOk, Bool.and_eq_true, List.all_eq_true] at hso
      exact hso.1 _ h1
    refine ⟨v, hv, (h3.keepP hxs kp fun r hr hnH => ?_).agree fun o ho => hcO o ?_⟩
    · obtain ⟨e, k, t, l, deep, hob⟩ := isRow_obj hr
      have hrow : RowOk M c ow w (okB src c ow f.ob) r e k t l deep := h.obj hob
      have hnM : ∀ b, b < w.heap.size → ow b = some r → ¬ M' b := fun b hlt ho hm => by
        rcases hm with h3 | h3
        · omega
        · exact hnH (hHB b r h3 ho)
      refine ⟨fun g hg => ?_, fun b hlt ho => ⟨hblk b hlt (hnM b hlt ho), by rw [howO b (hnM b hlt ho)]; exact ho⟩⟩
      have ho := (hrow.2.2.1 g hg).2
      have hlt : g < w.heap.size := by
        rcases Nat.lt_or_ge g w.heap.size with h4 | h4
        · exact h4
        · rw [hown0 g h4] at ho; cases ho
      exact hblk g hlt (hnM g hlt ho)
    rintro ⟨e, he, h4, h5⟩
    have := h2 o (by simp only [killIds, List.mem_append]; exact .inr (List.mem_map.2 ⟨e, List.mem_filter.2 ⟨he, by simp [h4]⟩, h5.symm⟩))
    rw [ho] at this
    cases this
  · rw [hgo] at hm
    rcases List.mem_append.1 hm with hm | hm
    · obtain ⟨e, he, h1⟩ := List.mem_map.1 hm
      injection h1 with e1 h1
      injection h1 with _ e2
      subst e1 e2
      obtain ⟨i, n', x⟩ := e
      obtain ⟨k1, k2⟩ := hcN _ he
      have hob := hp.ob _ _ _ he
      cases x with
      | box cs =>
        obtain ⟨b1, b2, vs, ty, b3, b4⟩ := hob
        exact ⟨by rw [k1]; exact hM'M _ b1, by rw [k1]; exact howN _ b1 _ he b2, vs, ty, by rw [k1]; exact b3, hCs b4 ((okOP_iff (hp3 _ he)).2.2 cs rfl)⟩
      | row e' k t l deep =>
        obtain ⟨r0, r1, r2, us, G, r3, r4, r5, r6⟩ := hob
        refine ⟨r0, r1, fun q hq => ?_, us, G, by rw [k2]; exact r3, r4, fun b hb => hokN b (r5 b hb), fun hd => ?_⟩
        · rw [k2] at hq
          obtain ⟨q1, q2⟩ := r2 q hq
          exact ⟨hM'M _ q1, howN _ q1 _ he q2⟩
        · obtain ⟨n1, n2⟩ := r6 hd
          refine ⟨n1, fun b hb => ?_⟩
          obtain ⟨q1, q2, q3, q4⟩ := n2 b hb
          exact ⟨hM'M _ q1, howN _ q1 _ he q2, by rw [k2]; exact q3, q4⟩
      | win _ _ _ => have := (okOP_iff (hp3 _ he)).2.1; cases this
    · obtain ⟨hnN, hnH, m, y, hy, hsc, hnm, hsub⟩ := hf2 o n x hm
      have h1 := (h.ob o m y hy).le h.rvs hsc.le
      have hs1 := hsub (by
        simp only [F.subOk, Bool.and_eq_true, List.all_eq_true] at hso
        simpa using hso.2 _ hy)
      have h2 : ObOk M c'' ow w (okB src c ow f.ob) o x := by
        obtain ⟨k1, k2⟩ := hcO o hnN
        cases x with
        | box cs =>
          obtain ⟨b1, b2, vs, ty, b3, b4⟩ := h1
          refine ⟨by rw [k1]; exact b1, by rw [k1]; exact b2, vs, ty, by rw [k1]; exact b3, b4.mono fun u z hz hr => hr.agree fun q hq => hcO q fun hN => ?_⟩
          have := hnm q hN
          simp only [O.names, List.any_eq_false] at this
          exact this z hz hq
        | row e k t l deep =>
          obtain ⟨r0, r1, r2, xs, G, r3, r4, r5, r6⟩ := h1
          exact ⟨r0, r1, by rw [k2]; exact r2, xs, G, by rw [k2]; exact r3, r4, r5, by rw [k2]; exact r6⟩
        | win k t l =>
          obtain ⟨r0, r1, G, r2, r3, r4⟩ := h1
          exact ⟨r0, r1, G, by rw [k2]; exact r2, r3, r4⟩
      have hnM : ∀ b, b < w.heap.size → ow b = some o → ¬ M' b := fun b hlt ho hm => by
        rcases hm with h3 | h3
        · omega
        · exact hnH (hHB b o h3 ho)
      exact h2.keep hs1 kp (fun b hlt h3 _ => hblk b hlt (hnM b hlt h3)) (fun b hlt h3 => by rw [howO b (hnM b hlt h3)]; exact h3)
  · rw [hgo] at hx hy
    rcases List.mem_append.1 hx with hx | hx
    · obtain ⟨e, he, h1⟩ := List.mem_map.1 hx
      injection h1 with e1 h1
      injection h1 with _ e2
      rcases List.mem_append.1 hy with hy | hy
      · obtain ⟨e', he', h2⟩ := List.mem_map.1 hy
        injection h2 with e3 h2
        injection h2 with _ e4
        have hid := hinj e he e' he' (e1.trans e3.symm)
        have h5 := hp.uniq e.1 e.2.1 e.2.2 e'.2.1 e'.2.2 he (by rw [hid]; exact he')
        rw [← e2, ← e4, h5]
      · exact absurd e1.symm (hdis o _ _ hy e he)
    · rcases List.mem_append.1 hy with hy | hy
      · obtain ⟨e', he', h2⟩ := List.mem_map.1 hy
        injection h2 with e3 h2
        exact absurd e3.symm (hdis o _ _ hx e' he')
      · exact scrubs_uniq (ids := killIds H d p) h.uniq _ _ _ _ _ (List.mem_filter.1 hx).1 (List.mem_filter.1 hy).1
  · show ∃ ad n k, (if isN r then c'.rv (r - callId d) else c.rv r) = .slice ad n k
    split
    · exact hp.rvs _
    · exact h.rvs r
  · cases x with
    | one y => exact hC v y hx hr
    | agg ys =>
      obtain ⟨vs, rfl, ha⟩ := hr
      simp only [okAP, List.all_eq_true] at hx
      exact ⟨vs, rfl, hCs ha hx⟩
theorem results_allP {M' src' : Nat → Prop} {c' : Cx} {ow' : Nat → Option Nat} {p : F} {us : List Value} {ids : List Nat} (hp : SimC M' src' c' ow' p (actL us) w) (hlen : us.length = p.fr.length) (h1 : p.fr.map (·.1) = List.range p.fr.length) (h2 : ∀ e ∈ p.fr, okSP ids e.2.2 = true) : All2 (RelA c' ow' w (okB src' c' ow' p.ob)) us (resAs p.fr) ∧ ∀ x ∈ resAs p.fr, okAP ids x = true := by
  have key : ∀ (es : List (Nat × Nat × S)) (k : Nat), (∀ e ∈ es, e ∈ p.fr) → es.map (·.1) = List.range' k es.length → (∀ e ∈ es, okSP ids e.2.2 = true) → k + es.length = us.length → All2 (RelA c' ow' w (okB src' c' ow' p.ob)) (us.drop k) (resAs es) ∧ ∀ x ∈ resAs es, okAP ids x = true := by
    intro es
    induction es with
    | nil =>
      intro k _ _ _ hk
      have : us.drop k = [] := List.drop_eq_nil_of_le (by simp at hk; omega)
      rw [this]
      exact ⟨.nil, by simp [resAs]⟩
    | cons e es ih =>
      intro k hm hr ho hk
      obtain ⟨s, n, x⟩ := e
      simp only [List.map_cons, List.length_cons, List.range'_succ, List.cons.injEq] at hr
      obtain ⟨rfl, hr⟩ := hr
      have hox := ho (s, n, x) (List.mem_cons_self ..)
      cases x with
      | val y =>
        obtain ⟨i1, i2⟩ := ih (s + 1) (fun e he => hm e (List.mem_cons_of_mem _ he)) hr (fun e he => ho e (List.mem_cons_of_mem _ he)) (by simp at hk; omega)
        obtain ⟨v, hv, hrel⟩ := hp.fr s n _ (hm _ (List.mem_cons_self ..))
        have hv' : us[s]? = some v := by simpa [actL] using hv
        have hlt : s < us.length := (List.getElem?_eq_some_iff.1 hv').1
        rw [List.drop_eq_getElem_cons hlt]
        have he : us[s] = v := (List.getElem?_eq_some_iff.1 hv').2
        rw [he]
        refine ⟨.cons hrel i1, fun z hz => ?_⟩
        rcases List.mem_cons.1 hz with rfl | hz
        · exact hox
        · exact i2 z hz
      | tup _ => cases hox
      | un => cases hox
  have := key p.fr 0 (fun e he => he) (by rw [h1, List.range_eq_range']) h2 (by omega)
  simpa using this
end

section
variable {X : Ctx} {E : List Con} {f : F} {a : Act} {w : World} {o : Oper} {R : Type} {K : F → Option R} {r : R}
theorem notApp_base {op : Op} {cl : Call} (h : op = .call cl) (hn : isApp op = false) : appBase op = none := by
  subst h
  simp only [isApp, appBase] at hn ⊢
  split at hn
  · cases hn
  · rename_i hne
    split
    · rename_i x y h1 h2; exact absurd h1 (by simpa using hne)
    · rfl
theorem callP0_goes (h : At X f a w) {c : Con} (hc : c.Ok X.P) {cl : Call} (hop : o.op = .call cl) {os : List Operand} (hnb : isApp o.op = false) (hexec : Enters X.P c.f → ∀ w, (execOp a.eval o).run X.P w = .ok (.enter c.f (os.map a.eval).toArray) w) (hd : inFrame X.n o.dst = true) (hwr : c.pre.ob.isEmpty = false → writes E o.op = true) (hv : evCallP0 c f o.dst os K = some r) : Goes X E o a w f K r := by
  unfold evCallP0 at hv
  split at hv
  · rename_i tvs ps hargs
    split at hv
    · rename_i tws H hobs
      split at hv
      · rename_i hcond
        obtain ⟨hc1, hc2, hc3, hc4, hso⟩ := hcond
        have hc1 := nodupB_sound hc1
        have hc2 := nodupB_sound hc2
        have hc3 := nodupB_sound hc3
        obtain ⟨x0, hx0, hv⟩ := kOpt_some hv
        obtain ⟨p0, hp0, hv⟩ := kOpt_some hv
        obtain ⟨y0, hy0, hv⟩ := bind_some hv
        obtain ⟨p, hp, hv⟩ := kOpt_some hv
        rcases cond_some hv with ⟨hpost, hv⟩ | ⟨_, hv⟩
        · refine ⟨_, hv, (((Ext.scrubs _ f).trans (Ext.less _ H)).trans (Ext.give _ H _ p.ob)).trans (Ext.put _ _ _), fun Kp Q hK => ?_⟩
          obtain ⟨⟨cx, ow0, hs0, hpin⟩, hb, hn⟩ := id h
          have hs := hs0.trim
          generalize hows : (fun b => if b < w.heap.size then ow0 b else none) = ow at hs
          have hown : ∀ b, w.heap.size ≤ b → ow b = none := fun b hb' => by rw [← hows]; exact if_neg (by omega)
          obtain ⟨g1, g2⟩ := handObs_inj hobs
          obtain ⟨ob, hob, hobid, hobH⟩ := g2 []
          obtain ⟨fr, hfr, hargR⟩ := handArgs_inj hargs tws
          have hp0' : p0 = ⟨1, fr, ob⟩ := by
            unfold F.inj at hp0
            rw [ofTVs_to hx0, hfr] at hp0
            simp only at hp0
            rw [List.append_nil] at hob
            rw [hob] at hp0
            injection hp0 with hp0
            exact hp0.symm
          subst hp0'
          obtain ⟨hent, hmeet⟩ := hc x0 y0 _ p hy0 (by assumption) hp
          have hfresh : ∀ b, w.heap.size ≤ b → X.M b := fun b hb' => X.hM b (Nat.le_trans hb.size hb')
          have hsim0 := hand_sim hs hown hc1 hc2 (hargR.mono g1) (ob := ob) (by rw [hobid]; exact hc3) hobH
          have hcall := hmeet w _ _ _ _ (os.map a.eval) (fun b hb' => .inl hb') (fun b hb' => .inl hb') hsim0 (by simp [hargR.length])
          unfold Oper.wp
          rw [hexec hent w]
          simp only [Oper.upon]
          refine hcall.mono fun e w1 he => ?_
          obtain ⟨v, us, c1, ow1, rfl, hres, hbel, hsim, hlen, hpin1⟩ := he
          obtain ⟨c'', ow'', hsim'', hpin'', hrel⟩ := give_sound hs hso hown hfresh X.hsrc hc1 hc2 hsim hbel hpin1 hpost
          obtain ⟨q1, q2, q3, q4⟩ := okPostP_iff hpost
          obtain ⟨r1, r2⟩ := results_allP hsim hlen q1 q4
          have hblk : ∀ b, b < w.heap.size → ¬ X.M b → w1.heap[b]? = w.heap[b]? := fun b hlt hb' => hbel.block b hlt fun hm => by
            rcases hm with hm | hm
            · omega
            · exact hb' (hm.spec hs).2.1
          have hpins : Pins X c'' := fun o' ho' => ⟨(hpin'' o' ho').1.trans (hpin o' ho').1, (hpin'' o' ho').2.trans (hpin o' ho').2⟩
          have hat : At X (((f.scrubs (killIds H (o.dst.getD 9000) p)).less H).give H (o.dst.getD 9000) p.ob) a w1 := ⟨⟨c'', ow'', hsim'', hpins⟩, hb.trans ⟨hbel.os, hbel.tape, hbel.output, hbel.size, hblk⟩, hn⟩
          have hall := r1.map_right2 (S := RelA c'' ow'' w1 (okB X.src c'' ow'' (((f.scrubs (killIds H (o.dst.getD 9000) p)).less H).give H (o.dst.getD 9000) p.ob).ob)) (g := shAP H (o.dst.getD 9000)) fun u x hx hr => hrel u x (r2 x hx) hr
          refine hK _ _ (hat.put hsim'' hpins hd (RelS_res hres hall)) ⟨fun hw => ?_, ⟨v, rfl, (fun ha => by rw [hop] at ha; cases ha), fun ha => by rw [hnb] at ha; cases ha⟩, (fun x hx => by rw [notApp_base hop hnb] at hx; cases hx), hbel.size⟩
          cases hpe : c.pre.ob.isEmpty with
          | false => rw [hwr hpe] at hw; cases hw
          | true =>
            have hHe := hc4 hpe
            intro b hlt
            refine hbel.block b hlt fun hm => ?_
            rcases hm with hm | ⟨e, he, _⟩
            · omega
            · rw [List.isEmpty_iff.1 hHe] at he; cases he
        · cases hv
      · cases hv
    · cases hv
  · cases hv
theorem At.subsFor (h : At X f a w) (xs : List Operand) : At X (f.subsFor xs) a w := by
  obtain ⟨⟨c, ow, hs, hpin⟩, hb, hn⟩ := h
  refine ⟨⟨c, ow, ?_, hpin⟩, hb, hn⟩
  refine hs.weak (fun s n x hm => ⟨n, (List.mem_filter.1 hm).1⟩) (fun o n x hm => ?_) (fun o n x m y hx hy => ?_)
  · obtain ⟨m, y, hy, rfl⟩ := noSubs_mem (f := f) hm
    exact ⟨m, y, hy, O.noSub_le y⟩
  · obtain ⟨_, x', hx', rfl⟩ := noSubs_mem (f := f) hx
    obtain ⟨_, y', hy', rfl⟩ := noSubs_mem (f := f) hy
    rw [hs.uniq _ _ _ _ _ hx' hy']
theorem Ext.subsFor (f : F) (xs : List Operand) : Ext f (f.subsFor xs) :=
  ⟨Nat.le_succ _, fun s n x hm _ => (List.mem_filter.1 hm).1, (Ext.noSubs f).ob⟩
theorem callP_goes (h : At X f a w) {c : Con} (hc : c.Ok X.P) {cl : Call} (hop : o.op = .call cl) {os : List Operand} (hnb : isApp o.op = false) (hexec : Enters X.P c.f → ∀ w, (execOp a.eval o).run X.P w = .ok (.enter c.f (os.map a.eval).toArray) w) (hd : inFrame X.n o.dst = true) (hwr : c.pre.ob.isEmpty = false → writes E o.op = true) (hv : evCallP c f o.dst os K = some r) : Goes X E o a w f K r := by
  unfold evCallP at hv
  obtain ⟨g, hg, hv⟩ := kOpt_some hv
  obtain ⟨h1, h2⟩ := wks_sound (X := X) hg
  have hat := (h2 a w (h.frzAll _)).subsFor os
  exact (callP0_goes hat hc hop hnb hexec hd hwr hv).ext (((Ext.frzAll _ _).trans h1).trans (Ext.subsFor g os))
theorem raw_eq (E : List Con) (d : Option Nat) (c : Con) : (c.raw E d).f = c.f ∧ (c.raw E d).pre = c.pre ∧ ∀ P, c.Ok P → (c.raw E d).Ok P := by
  cases d with
  | none => exact ⟨rfl, rfl, fun _ h => h⟩
  | some d =>
    show (cond (conOf E (1100000000 + d)).isSome { c with win := false } c).f = c.f ∧ (cond (conOf E (1100000000 + d)).isSome { c with win := false } c).pre = c.pre ∧ ∀ P, c.Ok P → (cond (conOf E (1100000000 + d)).isSome { c with win := false } c).Ok P
    cases (conOf E (1100000000 + d)).isSome with
    | true => exact ⟨rfl, rfl, fun _ h => h⟩
    | false => exact ⟨rfl, rfl, fun _ h => h⟩
theorem rawCon_ok (P : Program) (d : Nat) : (rawCon d).Ok P := fun x y f g h => by cases h
theorem hintCon_ok (P : Program) (d : Nat) : (hintCon d).Ok P := fun x y f g h => by cases h
theorem subCon_ok (P : Program) (d : Nat) : (subCon d).Ok P := fun x y f g h => by cases h
theorem call_goes (h : At X f a w) (hE : ∀ c ∈ E, c.Ok X.P) {cl : Call} (hop : o.op = .call cl) (hd : inFrame X.n o.dst = true) (hv : evCall E f o.dst cl K = some r) : Goes X E o a w f K r := by
  unfold evCall at hv
  split at hv
  · rename_i g hcal
    split at hv
    · rename_i c hcon'
      obtain ⟨c0, hcon, hraw⟩ := Option.map_eq_some_iff.1 hcon'
      obtain ⟨hmem, rfl⟩ := conOf_some hcon
      obtain ⟨rw1, rw2, rw3⟩ := raw_eq E o.dst c0
      rw [hraw] at rw1 rw2 rw3
      have hcal : cl.callee = .value (.func c.f) := by rw [rw1]; exact hcal
      have hwr : c.pre.ob.isEmpty = false → writes E o.op = true := fun hb => by
        rw [hop]
        simp only [writes, hcal]
        rw [rw1, hcon]
        rw [rw2] at hb
        simp only [hb]; rfl
      have hE' : c.Ok X.P := rw3 X.P (hE c0 hmem)
      rcases cond_some hv with ⟨_, hv⟩ | ⟨_, hv⟩
      · exact (callP_goes h hE' hop (os := cl.args.toList) (by rw [hop]; simp [isApp, hcal]) (fun hent w => by
          rw [exec_call hop hcal hent w]
          congr 2
          rw [← Array.toList_map, Array.toArray_toList]) hd hwr hv)
      split at hv
      · rename_i hob
        split at hv
        · exact (call1_goes (h.noSubs.frzAll _) (subFree_frzAll (subFree_noSubs f) _) hE' hob hop hcal hd hv).ext ((Ext.noSubs f).trans (Ext.frzAll _ _))
        · exact (call1_goes h.noSubs (subFree_noSubs f) hE' hob hop hcal hd hv).ext (Ext.noSubs f)
      · rename_i hob
        exact callW_goes h hE' hop hcal hd (by
          refine hwr ?_
          cases hb : c.pre.ob with
          | nil => exact absurd hb hob
          | cons _ _ => rfl) hv
    · cases hv
  · rename_i x hnf hcal
    split at hv
    · rename_i g b hx
      split at hv
      · rename_i c s hcon hslot
        obtain ⟨hmem, rfl⟩ := conOf_some hcon
        rcases cond_some hv with ⟨_, hv⟩ | ⟨_, hv⟩
        · obtain ⟨⟨cx, ow, hs, _⟩, _, _⟩ := id h
          have hv1 : a.eval x = .func (.func c.f) #[] #[.pointer (some ⟨cx.loc b, 0, none⟩)] := hs.getC hx
          have hv2 : a.eval (.tmp s) = .pointer (some ⟨cx.loc b, 0, none⟩) := by
            unfold ptrSlot at hslot
            obtain ⟨e, he, hes⟩ := Option.map_eq_some_iff.1 hslot
            obtain ⟨s', n', S'⟩ := e
            have hes : s' = s := hes
            subst hes
            have hp := List.find?_some he
            obtain ⟨v, hv', hrel⟩ := hs.fr _ _ _ (List.mem_of_find?_eq_some he)
            have hva : a.eval (.tmp s') = v := by simp [Act.eval, Array.getD_eq_getD_getElem?, hv']
            rw [hva]
            simp only [S.isPtr] at hp
            split at hp
            · rename_i o' off
              simp only [Bool.and_eq_true, beq_iff_eq] at hp
              obtain ⟨rfl, rfl⟩ := hp
              exact hrel
            · cases hp
          refine (callP_goes h (hE c hmem) hop (os := cl.args.toList ++ [.tmp s]) ?_ (fun hent w => ?_) hd (fun _ => ?_) hv)
          · rw [hop]; simp [isApp, hcal]
          · have h1 := hent (cl.args.map a.eval ++ #[.pointer (some ⟨cx.loc b, 0, none⟩)]) w
            have harr : ((cl.args.toList ++ [Operand.tmp s]).map a.eval).toArray = cl.args.map a.eval ++ #[Value.pointer (some ⟨cx.loc b, 0, none⟩)] := by
              apply Array.ext'
              simp [hv2]
            rw [harr]
            simp only [execOp, hop, resolve, hcal, hv1, Sem.run_bind]
            simp [Deferred.ofValue, invoke]
            simpa using h1
          · rw [hop]
            simp only [writes, hcal]
            cases x <;> first | rfl | exact absurd rfl (hnf _)
        · cases hv
      · cases hv
    · cases hv
  · cases hv

theorem any_goes (h : At X f a w) (hE : ∀ c ∈ E, c.Ok X.P) (hd : inFrame X.n o.dst = true) (hv : evAny X.P E f o K = some r) : Goes X E o a w f K r := by
  unfold evAny at hv
  rcases cond_some hv with ⟨_, hv⟩ | ⟨_, hv⟩
  · obtain ⟨hval, g, v, hk, he, hg, hat⟩ := trunc_sound h hd hv
    refine ⟨g, hk, he, fun Kp Q hK => ?_⟩
    unfold Oper.wp
    rw [hg w (fun _ _ _ => rfl)]
    exact hK _ _ hat ⟨fun _ _ _ => rfl, ⟨v, rfl, (fun ha => by rw [isVal_allocs hval] at ha; cases ha), fun ha => by rw [isVal_isApp hval] at ha; cases ha⟩, (fun x hx => by rw [isVal_app hval] at hx; cases hx), Nat.le_refl _⟩
  rcases cond_some hv with ⟨_, hv⟩ | ⟨_, hv⟩
  · obtain ⟨hval, g, v, hk, he, hg, hat⟩ := subL_sound h hd hv
    refine ⟨g, hk, he, fun Kp Q hK => ?_⟩
    unfold Oper.wp
    rw [hg w (fun _ _ _ => rfl)]
    exact hK _ _ hat ⟨fun _ _ _ => rfl, ⟨v, rfl, (fun ha => by rw [isVal_allocs hval] at ha; cases ha), fun ha => by rw [isVal_isApp hval] at ha; cases ha⟩, (fun x hx => by rw [isVal_app hval] at hx; cases hx), Nat.le_refl _⟩
  rcases cond_some hv with ⟨hval, hv⟩ | ⟨_, hv⟩
  · have h := h.preF o.op
    obtain ⟨⟨cx, ow, hs, hpin⟩, hb, hn⟩ := id h
    obtain ⟨s, ⟨v, hrel, hg⟩, hk⟩ := evVal_sound hs hv
    refine ⟨_, hk, (Ext.preF f o.op).trans (Ext.put _ _ _), fun Kp Q hK => ?_⟩
    unfold Oper.wp
    rw [hg w (fun _ _ _ => rfl)]
    exact hK _ _ (h.put hs hpin hd hrel) ⟨fun _ _ _ => rfl, ⟨v, rfl, (fun ha => by rw [isVal_allocs hval] at ha; cases ha), fun ha => by rw [isVal_isApp hval] at ha; cases ha⟩, (fun x hx => by rw [isVal_app hval] at hx; cases hx), Nat.le_refl _⟩
  · split at hv
    · rename_i cl hop
      split at hv
      · exact (evMem_sound h.noSubs (subFree_noSubs f) hd hv).ext (Ext.noSubs f)
      · exact call_goes h hE hop hd hv
    · rename_i t p x hop
      rcases cond_some hv with ⟨_, hv⟩ | ⟨_, hv⟩
      · split at hv
        · rename_i hdst
          exact storeN_goes h hop hdst hv
        · cases hv
      · rw [← hop] at hv
        exact (evMem_sound h.noSubs (subFree_noSubs f) hd hv).ext (Ext.noSubs f)
    · exact (evMem_sound h.noSubs (subFree_noSubs f) hd hv).ext (Ext.noSubs f)
end
end Go.V
set_option linter.unusedVariables false
set_option linter.unusedSectionVars false
namespace Go.V
open Go.Ab Go.RowKit

/-- Whatever is as x says is as x' says. -/
def C.imp (x' x : C) : Prop := ∀ (c : Cx) (ow : Nat → Option Nat) (w : World) (ok : Nat → Prop) (v : Value), (∀ r, ∃ ad n k, c.rv r = .slice ad n k) → RelC c ow w ok v x → RelC c ow w ok v x'
def S.imp (x' x : S) : Prop := ∀ (c : Cx) (ow : Nat → Option Nat) (w : World) (ok : Nat → Prop) (v : Value), (∀ r, ∃ ad n k, c.rv r = .slice ad n k) → RelS c ow w ok v x → RelS c ow w ok v x'
theorem flat_repL {w : World} {vs : List Value} {ts : List T} {G : List Nat} (h : RepL w vs ts G) (hs : ∀ t ∈ ts, ∃ v, t = .lit v) : G = [] := by
  refine RepL.rec (motive_1 := fun _ t G _ => (∃ v, t = .lit v) → G = []) (motive_2 := fun _ ts G _ => (∀ t ∈ ts, ∃ v, t = .lit v) → G = []) ?_ ?_ ?_ ?_ ?_ h hs
  · exact fun _ _ => rfl
  · rintro _ _ _ ⟨v, hv⟩; cases hv
  · rintro _ _ _ _ _ _ _ _ _ _ _ _ _ _ _ _ _ _ ⟨v, hv⟩; cases hv
  · exact fun _ => rfl
  · intro v t F vs ts G _ _ i1 i2 hs
    rw [i1 (hs t (List.mem_cons_self ..)), i2 fun t ht => hs t (List.mem_cons_of_mem _ ht), List.nil_append]
theorem flat_lits : ∀ {t : Ty}, flat t = true → ∀ (x : den t), ∀ u ∈ cells t x, ∃ v, u = .lit v
  | .int _, _, _, u, hu => by simp only [cells, List.mem_singleton] at hu; subst hu; exact ⟨_, rfl⟩
  | .bool, _, _, u, hu => by simp only [cells, List.mem_singleton] at hu; subst hu; exact ⟨_, rfl⟩
  | .str, _, _, u, hu => by simp only [cells, List.mem_singleton] at hu; subst hu; exact ⟨_, rfl⟩
  | .sl _, h, _, _, _ => by cases h
  | .pair a b, h, x, u, hu => by
    simp only [flat, Bool.and_eq_true] at h
    simp only [cells, List.mem_append] at hu
    exact hu.elim (flat_lits h.1 x.1 u) (flat_lits h.2 x.2 u)
theorem flat_rows {w : World} {t : Ty} {l : List (den t)} {vs : List Value} {G : List Nat} (hf : flat t = true) (h : RepL w vs (l.map (cells t)).flatten G) : G = [] :=
  flat_repL h fun u hu => by
    obtain ⟨y, hy, hu⟩ := List.mem_flatten.1 hu
    obtain ⟨x, _, rfl⟩ := List.mem_map.1 hy
    exact flat_lits hf x u hu
inductive O.imp : O → O → Prop
  | refl (x : O) : O.imp x x
  | box {cs' cs : List C} (h : All2 C.imp cs' cs) : O.imp (.box cs') (.box cs)
  | row {e k : Nat} {t : Ty} {l : List (den t)} {deep' deep : Bool} (h : deep' = true → (deep || flat t) = true) : O.imp (.row e k t l deep') (.row e k t l deep)

section
variable {M src : Nat → Prop} {c : Cx} {ow : Nat → Option Nat} {f g : F} {a : Act} {w : World}
theorem O.imp.blk {x y : O} (h : x.imp y) {o b : Nat} (hb : x.blk c ow o b) : y.blk c ow o b := by
  cases h with
  | refl => exact hb
  | box _ => exact hb
  | row _ => exact hb
theorem All2.imp {ok : Nat → Prop} {vs : List Value} {cs' cs : List C} (hv : All2 (RelC c ow w ok) vs cs) (hrv : ∀ r, ∃ ad n k, c.rv r = .slice ad n k) (h : All2 C.imp cs' cs) : All2 (RelC c ow w ok) vs cs' := by
  induction h generalizing vs with
  | nil => cases hv; exact .nil
  | cons h hs ih => cases hv with | cons h1 h2 => exact .cons (h _ _ _ _ _ hrv h1) (ih h2)
theorem SimC.imp (h : SimC M src c ow f a w) (hf : ∀ s n x, (s, n, x) ∈ g.fr → ∃ m y, (s, m, y) ∈ f.fr ∧ x.imp y) (ho : ∀ o n x, (o, n, x) ∈ g.ob → ∃ m y, (o, m, y) ∈ f.ob ∧ x.imp y)
    (hu : ∀ o n x m y, (o, n, x) ∈ g.ob → (o, m, y) ∈ g.ob → x = y) : SimC M src c ow g a w := by
  have hlive : ∀ b, live c ow g.ob b → live c ow f.ob b := by
    rintro b ⟨o, n, y, hm, hy⟩
    obtain ⟨m, x, hx, hle⟩ := ho o n y hm
    exact ⟨o, m, x, hx, hle.blk hy⟩
  have kg : ∀ b, b < w.heap.size → okB src c ow f.ob b → okB src c ow g.ob b := fun b _ hb => ⟨hb.1, fun hl => hb.2 (hlive b hl)⟩
  refine ⟨h.defers, fun s n x hm => ?_, fun o n y hm => ?_, hu, h.rvs⟩
  · obtain ⟨m, y, hm', hi⟩ := hf s n x hm
    obtain ⟨v, hv, h1⟩ := h.fr s m y hm'
    exact ⟨v, hv, hi _ _ _ _ _ h.rvs (h1.good kg)⟩
  · obtain ⟨m, x, hx, hle⟩ := ho o n y hm
    have hok := h.ob o m x hx
    have hbx : ∀ cs cs', BoxOk M c ow w (okB src c ow f.ob) o cs → All2 C.imp cs' cs → BoxOk M c ow w (okB src c ow g.ob) o cs' := by
      rintro cs cs' ⟨b1, b2, vs, ty, b3, b4⟩ hall
      exact ⟨b1, b2, vs, ty, b3, All2.imp (b4.mono fun u t _ hr => RelC.good hr kg) h.rvs hall⟩
    have hrw : ∀ e k t l deep deep', RowOk M c ow w (okB src c ow f.ob) o e k t l deep → (deep' = true → (deep || flat t) = true) → RowOk M c ow w (okB src c ow g.ob) o e k t l deep' := by
      rintro e k t l deep deep' ⟨r0, r1, r2, xs, G, r3, r4, r5, r6⟩ hd
      exact ⟨r0, r1, r2, xs, G, r3, r4, fun b hb => kg b (r4.lt b hb) (r5 b hb), fun hd' => by
        cases hdp : deep with
        | true => exact r6 hdp
        | false =>
          have h2 := hd hd'
          rw [hdp, Bool.false_or] at h2
          have := flat_rows h2 r4
          subst this
          exact ⟨List.nodup_nil, fun b hb => by cases hb⟩⟩
    cases hle with
    | refl =>
      cases y with
      | box cs =>
        refine hbx cs cs hok ?_
        clear hok hm hx
        induction cs with
        | nil => exact .nil
        | cons t ts ih => exact .cons (fun _ _ _ _ _ _ h => h) ih
      | row e k t l deep => exact hrw e k t l deep deep hok fun h => by rw [h]; rfl
      | win k t l => exact hok
    | box hall => exact hbx _ _ hok hall
    | row hd => exact hrw _ _ _ _ _ _ hok hd
end

section
variable {f g : F}
theorem prjC {ct : CT} {x : C} {tvs : List TV} (h : ct.prj x = some tvs) (rest : List TV) : ∃ x', ct.inj (tvs ++ rest) = some (x', rest) ∧ C.imp x' x := by
  unfold CT.prj at h
  split at h
  · rename_i t t' y
    obtain ⟨z, hz, rfl⟩ := Option.map_eq_some_iff.1 h
    obtain ⟨rfl, rfl⟩ := castTy_some hz
    exact ⟨.v t' y, by show (castTy t' t' y).map _ = _; rw [castTy_self]; rfl, fun _ _ _ _ _ _ h => h⟩
  · rename_i t
    injection h with h
    subst h
    refine ⟨.v (.sl t) [], by show (castTy (.sl t) (.sl t) []).map _ = _; rw [castTy_self]; rfl, fun c ow w ok v hrv hv => ?_⟩
    have hv : v = .slice none 0 0 := hv
    subst hv
    exact ⟨[], .nil (Nat.zero_le _), by simp⟩
  · injection h with h; subst h; exact ⟨.nil, rfl, fun _ _ _ _ _ _ h => h⟩
  · split at h
    · rename_i r r' he; subst he; injection h with h; subst h; exact ⟨.row r, rfl, fun _ _ _ _ _ _ h => h⟩
    · cases h
  · split at h
    · rename_i o off o' off' he; obtain ⟨rfl, rfl⟩ := he; injection h with h; subst h; exact ⟨.ptr o off, rfl, fun _ _ _ _ _ _ h => h⟩
    · cases h
  · injection h with h; subst h; exact ⟨.any, rfl, fun _ _ _ _ _ hrv h => one_cell hrv h⟩
  · cases h
theorem prjLs : ∀ {cts : List CT} {cs : List C} {tvs : List TV}, prjL cts cs = some tvs → ∀ rest, ∃ cs', injL cts (tvs ++ rest) = some (cs', rest) ∧ All2 C.imp cs' cs
  | [], [], tvs, h, rest => by injection h with h; subst h; exact ⟨[], rfl, .nil⟩
  | [], _ :: _, tvs, h, rest => by cases h
  | _ :: _, [], tvs, h, rest => by cases h
  | ct :: cts, x :: xs, tvs, h, rest => by
    simp only [prjL] at h
    split at h
    · rename_i a b h1 h2
      injection h with h
      subst h
      obtain ⟨ds, g1, g2⟩ := prjLs h2 rest
      obtain ⟨d, g3, g4⟩ := prjC h1 (b ++ rest)
      refine ⟨d :: ds, ?_, .cons g4 g2⟩
      rw [List.append_assoc]
      simp [injL, g3, g1]
    · cases h
theorem find_fst {α : Type} {l : List (Nat × α)} {s : Nat} {e : Nat × α} (h : l.find? (fun e => e.1 == s) = some e) : e ∈ l ∧ e.1 = s := ⟨List.mem_of_find?_eq_some h, by simpa using List.find?_some h⟩
theorem nodup_fst {α : Type} : ∀ {l : List (Nat × α)}, (l.map (·.1)).Nodup → ∀ {x y : Nat × α}, x ∈ l → y ∈ l → x.1 = y.1 → x = y
  | [], _, x, y, hx, _, _ => by cases hx
  | z :: l, hn, x, y, hx, hy, he => by
    rw [List.map_cons, List.nodup_cons] at hn
    rcases List.mem_cons.1 hx with hx1 | hx1
    · rcases List.mem_cons.1 hy with hy1 | hy1
      · rw [hx1, hy1]
      · exact absurd (List.mem_map.2 ⟨y, hy1, by rw [← he, hx1]⟩) hn.1
    · rcases List.mem_cons.1 hy with hy1 | hy1
      · exact absurd (List.mem_map.2 ⟨x, hx1, by rw [he, hy1]⟩) hn.1
      · exact nodup_fst hn.2 hx1 hy1 he
theorem wf_iff (h : f.wf = true) : (f.fr.map (·.1)).Nodup ∧ (f.ob.map (·.1)).Nodup := by
  simp only [F.wf, Bool.and_eq_true] at h
  exact ⟨nodupB_sound h.1, nodupB_sound h.2.1⟩

theorem prjFrs (hx : Ext f g) (hw : f.wf = true) : ∀ {hs : List (Nat × ST)} {tvs : List TV}, prjFr f g hs = some tvs → ∀ rest, ∃ fr, injFr f hs (tvs ++ rest) = some (fr, rest) ∧ ∀ s n x, (s, n, x) ∈ fr → (∃ m y, (s, m, y) ∈ g.fr ∧ x.imp y) ∧ (n < f.ctr → (s, n, x) ∈ f.fr)
  | [], tvs, h, rest => by injection h with h; subst h; exact ⟨[], rfl, fun s n x hm => by cases hm⟩
  | (s, st) :: hs, tvs, h, rest => by
    simp only [prjFr] at h
    split at h
    · rename_i s' n x ys hg hr
      obtain ⟨hm, rfl⟩ := find_fst hg
      obtain ⟨fr, i1, i2⟩ := prjFrs hx hw hr rest
      split at h
      · split at h
        · rename_i s2 m y hf
          obtain ⟨hm2, e2⟩ := find_fst hf
          have e2 : s2 = s' := e2
          subst e2
          split at h
          · rename_i hc
            injection h with h
            subst h
            obtain ⟨rfl, hlt⟩ := hc
            have := nodup_fst (wf_iff hw).1 hm2 (hx.fr _ _ _ hm hlt) rfl
            refine ⟨(s2, m, y) :: fr, by simp only [injFr]; rw [hf]; simp only [i1], fun s n x hmem => ?_⟩
            rcases List.mem_cons.1 hmem with he | hmem
            · rw [he]
              injection he with e1 he
              injection he with e2 e3
              subst e1 e3
              refine ⟨⟨m, x, by rw [this]; exact hm, fun _ _ _ _ _ _ h => h⟩, fun _ => hm2⟩
            · exact i2 s n x hmem
          · cases h
        · cases h
      · rename_i ct y
        obtain ⟨tv, htv, rfl⟩ := Option.map_eq_some_iff.1 h
        obtain ⟨x', j1, j2⟩ := prjC htv (ys ++ rest)
        refine ⟨(s', f.ctr, .val (.one x')) :: fr, by rw [List.append_assoc]; simp only [injFr]; rw [j1]; simp only [i1], fun s n x hmem => ?_⟩
        rcases List.mem_cons.1 hmem with he | hmem
        · injection he with e1 he
          injection he with e2 e3
          subst e1 e2 e3
          exact ⟨⟨n, _, hm, fun c ow w ok v hrv hv => j2 c ow w ok v hrv hv⟩, fun hlt => by omega⟩
        · exact i2 s n x hmem
      · rename_i cts zs
        obtain ⟨tv, htv, rfl⟩ := Option.map_eq_some_iff.1 h
        obtain ⟨xs', j1, j2⟩ := prjLs htv (ys ++ rest)
        refine ⟨(s', f.ctr, .val (.agg xs')) :: fr, by rw [List.append_assoc]; simp only [injFr]; rw [j1]; simp only [i1], fun s n x hmem => ?_⟩
        rcases List.mem_cons.1 hmem with he | hmem
        · injection he with e1 he
          injection he with e2 e3
          subst e1 e2 e3
          exact ⟨⟨n, _, hm, fun c ow w ok v hrv hv => by obtain ⟨vs, hv, ha⟩ := hv; exact ⟨vs, hv, ha.imp hrv j2⟩⟩, fun hlt => by omega⟩
        · exact i2 s n x hmem
      · cases h
    · cases h

theorem prjObs (hx : Ext f g) (hw : f.wf = true) : ∀ {hs : List (Nat × OT)} {tvs : List TV}, prjOb f g hs = some tvs → ∀ rest, ∃ ob, injOb f hs (tvs ++ rest) = some (ob, rest) ∧ ob.map (·.1) = hs.map (·.1) ∧ ∀ o n x, (o, n, x) ∈ ob → (∃ m y, (o, m, y) ∈ g.ob ∧ x.imp y) ∧ (n < f.ctr → (o, n, x) ∈ f.ob)
  | [], tvs, h, rest => by injection h with h; subst h; exact ⟨[], rfl, rfl, fun s n x hm => by cases hm⟩
  | (s, st) :: hs, tvs, h, rest => by
    simp only [prjOb] at h
    split at h
    · rename_i s' n x ys hg hr
      obtain ⟨hm, rfl⟩ := find_fst hg
      obtain ⟨ob, i1, i0, i2⟩ := prjObs hx hw hr rest
      split at h
      · split at h
        · rename_i s2 m y hf
          obtain ⟨hm2, e2⟩ := find_fst hf
          have e2 : s2 = s' := e2
          subst e2
          split at h
          · rename_i hc
            injection h with h
            subst h
            obtain ⟨rfl, hlt⟩ := hc
            have := nodup_fst (wf_iff hw).2 hm2 (hx.ob _ _ _ hm hlt) rfl
            refine ⟨(s2, m, y) :: ob, by simp only [injOb]; rw [hf]; simp only [i1], by simp [i0], fun s n x hmem => ?_⟩
            rcases List.mem_cons.1 hmem with he | hmem
            · rw [he]
              injection he with e1 he
              injection he with e2 e3
              subst e1 e3
              refine ⟨⟨m, x, by rw [this]; exact hm, .refl _⟩, fun _ => hm2⟩
            · exact i2 s n x hmem
          · cases h
        · cases h
      · rename_i cts zs
        obtain ⟨tv, htv, rfl⟩ := Option.map_eq_some_iff.1 h
        obtain ⟨xs', j1, j2⟩ := prjLs htv (ys ++ rest)
        refine ⟨(s', f.ctr, .box xs') :: ob, by rw [List.append_assoc]; simp only [injOb]; rw [j1]; simp only [i1], by simp [i0], fun s n x hmem => ?_⟩
        rcases List.mem_cons.1 hmem with he | hmem
        · injection he with e1 he
          injection he with e2 e3
          subst e1 e2 e3
          exact ⟨⟨n, _, hm, .box j2⟩, fun hlt => by omega⟩
        · exact i2 s n x hmem
      · rename_i e k t deep e' k' t' l deep'
        split at h
        · rename_i hc
          obtain ⟨rfl, rfl, rfl, hd⟩ := hc
          injection h with h
          subst h
          refine ⟨(s', f.ctr, .row e k t l deep) :: ob, by show (match castTy (.sl t) (.sl t) l, injOb f hs (ys ++ rest) with | some l, some (r, zs) => some ((s', f.ctr, O.row e k t l deep) :: r, zs) | _, _ => none) = _; rw [castTy_self, i1], by simp [i0], fun s n x hmem => ?_⟩
          rcases List.mem_cons.1 hmem with he | hmem
          · injection he with e1 he
            injection he with e2 e3
            subst e1 e2 e3
            exact ⟨⟨n, _, hm, .row hd⟩, fun hlt => by omega⟩
          · exact i2 s n x hmem
        · cases h
      · rename_i k t k' t' l
        split at h
        · rename_i hc
          obtain ⟨rfl, rfl⟩ := hc
          injection h with h
          subst h
          refine ⟨(s', f.ctr, .win k t l) :: ob, by show (match castTy (.sl t) (.sl t) l, injOb f hs (ys ++ rest) with | some l, some (r, zs) => some ((s', f.ctr, O.win k t l) :: r, zs) | _, _ => none) = _; rw [castTy_self, i1], by simp [i0], fun s n x hmem => ?_⟩
          rcases List.mem_cons.1 hmem with he | hmem
          · injection he with e1 he
            injection he with e2 e3
            subst e1 e2 e3
            exact ⟨⟨n, _, hm, .refl _⟩, fun hlt => by omega⟩
          · exact i2 s n x hmem
        · cases h
      · cases h
    · cases h
end

section
variable {X : Ctx} {f g : F}
/-- What was brought to a shape is as the shape says. -/
theorem fit_sound {h : Sh} {x : denV h.tys} (hx : Ext f g) (hw : f.wf = true) (hh : h.wf = true) (hf : f.fit g h = some x) : ∃ k, f.inj h x = some k ∧ Ext f k ∧ ∀ a w, At X g a w → At X k a w := by
  unfold F.fit at hf
  split at hf
  · rename_i g' hg'
    obtain ⟨h1, h2⟩ := wks_sound (X := X) hg'
    have hx' := hx.trans h1
    unfold F.prj at hf
    split at hf
    · rename_i xs ys hxs hys
      obtain ⟨fr, j1, j2⟩ := prjFrs hx' hw hxs ys
      obtain ⟨ob, k1, k0, k2⟩ := prjObs hx' hw hys []
      rw [List.append_nil] at k1
      refine ⟨⟨f.ctr + 1, fr, ob⟩, ?_, ⟨Nat.le_succ _, fun s n y hm hn => (j2 s n y hm).2 hn, fun s n y hm hn => (k2 s n y hm).2 hn⟩, fun a w hat => ?_⟩
      · unfold F.inj
        rw [ofTVs_to hf, j1]
        simp only [k1]
      · obtain ⟨⟨cx, ow, hs, hpin⟩, hb, hn⟩ := h2 a w hat
        refine ⟨⟨cx, ow, hs.imp (fun s n y hm => (j2 s n y hm).1) (fun s n y hm => (k2 s n y hm).1) (fun o n y m z hy hz => ?_), hpin⟩, hb, hn⟩
        have hnd : (ob.map (·.1)).Nodup := by rw [k0]; exact nodupB_sound hh
        have := nodup_fst hnd hy hz rfl
        injection this with _ this
        injection this
    · cases hf
  · cases hf
end
end Go.V
