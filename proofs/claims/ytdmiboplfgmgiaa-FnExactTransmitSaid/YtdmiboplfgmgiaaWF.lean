/-
  Stores into rows and windows, as the meaning of a store says. Over any program. Conditions: none beyond the meaning.
-/
import Derived.Test.YtdmiboplfgmgiaaWE
set_option linter.unusedVariables false
set_option linter.unusedSectionVars false
namespace Go.V
open Go.Ab Go.RowKit

section
variable {M src : Nat → Prop} {c : Cx} {ow : Nat → Option Nat} {f : F} {a : Act} {w : World} {P : Program} {ok : Nat → Prop}

/-- The data of a cell. -/
def DT (f : F) (x : C) (τ : T) : Prop := ∃ (t : Ty) (y : den t), f.data t x = some y ∧ τ = leafT t y
theorem dataL_all2 : ∀ {t : Ty} {cs : List C} {z : den t}, f.dataL t cs = some (z, []) → All2 (DT f) cs (cells t z)
  | .int k, cs, z, h => by obtain ⟨x, rfl, hx⟩ := dataL_one (by simp) h; exact .cons ⟨_, z, hx, rfl⟩ .nil
  | .bool, cs, z, h => by obtain ⟨x, rfl, hx⟩ := dataL_one (by simp) h; exact .cons ⟨_, z, hx, rfl⟩ .nil
  | .str, cs, z, h => by obtain ⟨x, rfl, hx⟩ := dataL_one (by simp) h; exact .cons ⟨_, z, hx, rfl⟩ .nil
  | .sl t, cs, z, h => by obtain ⟨x, rfl, hx⟩ := dataL_one (by simp) h; exact .cons ⟨_, z, hx, rfl⟩ .nil
  | .pair a b, cs, z, h => by
    obtain ⟨u1, u2, rfl, _, h1, h2⟩ := dataL_pair h
    exact (dataL_all2 h1).append (dataL_all2 h2)
theorem castTy_self {t : Ty} (x : den t) : castTy t t x = some x := by simp [castTy]
theorem split_all2 (f : F) : ∀ (t : Ty) (x : den t), All2 (DT f) (split t x) (cells t x)
  | .int k, x => .cons ⟨.int k, x, castTy_self (t := .int k) x, rfl⟩ .nil
  | .bool, x => .cons ⟨.bool, x, castTy_self (t := .bool) x, rfl⟩ .nil
  | .str, x => .cons ⟨.str, x, castTy_self (t := .str) x, rfl⟩ .nil
  | .sl t, x => .cons ⟨.sl t, x, castTy_self (t := .sl t) x, rfl⟩ .nil
  | .pair a b, x => (split_all2 f a x.1).append (split_all2 f b x.2)
theorem split_v : ∀ (t : Ty) (x : den t), ∀ y ∈ split t x, ∃ (t' : Ty) (z : den t'), y = .v t' z
  | .int k, x, y, h => ⟨_, _, List.mem_singleton.1 h⟩
  | .bool, x, y, h => ⟨_, _, List.mem_singleton.1 h⟩
  | .str, x, y, h => ⟨_, _, List.mem_singleton.1 h⟩
  | .sl t, x, y, h => ⟨_, _, List.mem_singleton.1 h⟩
  | .pair a b, x, y, h => (List.mem_append.1 h).elim (split_v a x.1 y) (split_v b x.2 y)
theorem DT_v {t : Ty} {z : den t} {τ : T} (h : DT f (.v t z) τ) : τ = leafT t z := by
  obtain ⟨t', y, hy, rfl⟩ := h
  obtain ⟨rfl, rfl⟩ := castTy_some hy
  rfl
theorem DT_fun : ∀ {cs : List C} {xs ys : List T}, (∀ y ∈ cs, ∃ (t' : Ty) (z : den t'), y = .v t' z) → All2 (DT f) cs xs → All2 (DT f) cs ys → xs = ys := by
  intro cs
  induction cs with
  | nil => intro xs ys _ h1 h2; cases h1; cases h2; rfl
  | cons x cs ih =>
    intro xs ys hv h1 h2
    cases h1 with
    | cons a1 b1 =>
      cases h2 with
      | cons a2 b2 =>
        obtain ⟨t, z, rfl⟩ := hv x (List.mem_cons_self ..)
        rw [DT_v a1, DT_v a2, ih (fun y hy => hv y (List.mem_cons_of_mem _ hy)) b1 b2]
/-- An element with some cells replaced. -/
theorem dataL_sp {t : Ty} {el z : den t} {off : Nat} {ys : List C} (hle : off + ys.length ≤ tyLen t) (h : f.dataL t (sp (split t el) off ys) = some (z, [])) : ∃ ts, All2 (DT f) ys ts ∧ cells t z = sp (cells t el) off ts := by
  have h1 := dataL_all2 h
  have h2 := split_all2 f t el
  have hl : (split t el).length = tyLen t := split_len t el
  unfold sp at h1
  have ht : ((split t el).take off).length = off := by simp; omega
  refine ⟨((cells t z).drop off).take ys.length, ?_, ?_⟩
  · have := ((h1.drop off).take ys.length)
    rw [List.append_assoc, List.drop_append, ht, Nat.sub_self, List.drop_zero, List.drop_eq_nil_of_le (by omega), List.nil_append, List.take_left] at this
    exact this
  · have hlz : (cells t z).length = tyLen t := cells_len t z
    have hle2 : (cells t el).length = tyLen t := cells_len t el
    have e1 : (cells t z).take off = (cells t el).take off := by
      have a1 := h1.take off
      rw [List.append_assoc, List.take_append, ht, Nat.sub_self, List.take_zero, List.append_nil, List.take_take, Nat.min_self] at a1
      exact DT_fun (f := f) (fun y hy => split_v t el y (List.mem_of_mem_take hy)) a1 (h2.take off)
    have e2 : (cells t z).drop (off + ys.length) = (cells t el).drop (off + ys.length) := by
      have a1 := h1.drop (off + ys.length)
      rw [List.drop_append, List.length_append, ht, Nat.sub_self, List.drop_zero, List.drop_eq_nil_of_le (by simp; omega), List.nil_append] at a1
      exact DT_fun (f := f) (fun y hy => split_v t el y (List.mem_of_mem_drop hy)) a1 (h2.drop (off + ys.length))
    unfold sp
    have hll : (((cells t z).drop off).take ys.length).length = ys.length := by simp; omega
    rw [hll, ← e1, ← e2, ← List.drop_drop]
    rw [List.append_assoc, List.take_append_drop, List.take_append_drop]
/-- Cells that are moved, with their blocks. -/
theorem mvs_sound (h : SimC M src c ow f a w) : ∀ {cs : List C} {ts : List T} {vs : List Value} {ids : List Nat} {dp : Bool}, All2 (DT f) cs ts → mvCs f cs = some (ids, dp) → All2 (RelC c ow w (okB src c ow f.ob)) vs cs → ids.Nodup → ∃ G, RepL w vs ts G ∧ Taken M c ow w (okB src c ow f.ob) ids dp G := by
  intro cs
  induction cs with
  | nil =>
    intro ts vs ids dp hd hm hv _
    cases hd; cases hv
    injection hm with hm; injection hm with e1 e2; subst e1 e2
    exact ⟨[], .nil, by simp, fun _ => by simp⟩
  | cons x cs ih =>
    intro ts vs ids dp hd hm hv hn
    unfold mvCs at hm
    split at hm
    · rename_i i1 d1 i2 d2 h1 h2
      injection hm with hm; injection hm with e1 e2; subst e1 e2
      cases hd with
      | cons hdx hds =>
        cases hv with
        | cons hr hrs =>
          obtain ⟨t, y, hy, rfl⟩ := hdx
          obtain ⟨G, g1, g2⟩ := mvC_sound h h1 hy hr
          obtain ⟨H, g3, g4⟩ := ih hds h2 hrs (List.nodup_append.1 hn).2.1
          exact ⟨G ++ H, .cons g1 g3, g2.append g4 hn⟩
    · cases hm
theorem All2.frzd (h : SimC M src c ow f a w) (hsrc : ∀ b, M b → src b) {ids : List Nat} {vs : List Value} {ts : List T} {G : List Nat} {dp : Bool} (hids : ∀ r ∈ ids, ∃ n e k, ∃ (t : Ty) (l : List (den t)), ∃ deep, (r, n, O.row e k t l deep) ∈ f.ob) (ht : Taken M c ow w (okB src c ow f.ob) ids dp G) :
    (∀ b ∈ G, okB src c ow (f.frzAll ids).ob b) ∧ (dp = true → G.Nodup ∧ ∀ b ∈ G, M b ∧ Unf w b ∧ ∃ r, ow b = some r ∧ ∀ n x, (r, n, x) ∉ (f.frzAll ids).ob) := ht.frozen h hsrc (fun r hr => hr) hids
end

section
variable {X : Ctx} {E : List Con} {f : F} {a : Act} {w : World} {o : Oper} {R : Type} {K : F → Option R} {r : R}

theorem storeRow_goes (h : At X f a w) (hsf : f.subFree) {t : TypeId} {p x : Operand} {q k i off n e : Nat} {y : A} {inf : TypeInfo} {ty : Ty} {l : List (den ty)} {deep dp : Bool} {ids : List Nat} {z : den ty} (hop : o.op = .store t p x) (hdst : o.dst = none) (hp : f.getC p = some (.rp q k i off)) (hx : f.get x = some (.val y)) (hi : X.P.info? t = some inf) (hrow : f.obj q = some (.row e k ty l deep))
    (hmv : mvCs f y.cells = some (ids, dp)) (c1 : y.cells.length = inf.size) (c2 : off + y.cells.length ≤ k) (c3 : nodupB ids = true) (c4 : ids.contains q = false) (hil : i < l.length) (hz : ∃ ts, All2 (DT f) y.cells ts ∧ cells ty z = sp (cells ty l[i]) off ts)
    (hk : K ((f.frzAll ids).setOb q (.row e k ty (l.set i z) (deep && dp))) = some r) : Goes X E o a w f K r := by
  refine ⟨_, hk, (Ext.frzAll f ids).trans (Ext.setOb _ q _), fun Kp Q hK => ?_⟩
  obtain ⟨⟨c, ow, hs, hpin⟩, hb, hn⟩ := id h
  obtain ⟨g, b0, nn, cap, hrv, hpv⟩ := hs.getC hp
  obtain ⟨hsol, hnsub⟩ := mvCs_solid hmv
  obtain ⟨us, hvs, hall, hone⟩ := solid_cells hs.rvs (hs.get hx) hsol
  obtain ⟨ts, hts, hzz⟩ := hz
  have hnd := nodupB_sound c3
  obtain ⟨G, g1, g2⟩ := mvs_sound hs hts hmv hall hnd
  obtain ⟨t1, t2⟩ := g2.frozen hs X.hsrc (fun r hr => hr) (mvCs_ids hmv)
  obtain ⟨m, hmem⟩ := obj_mem hrow
  obtain ⟨m', hmem'⟩ := mem_frzAll_row c4 hmem
  have htl : ts.length = y.cells.length := hts.length.symm
  obtain ⟨w', ow', hrun, hsim, hbel⟩ := storeRow_sound (P := X.P) (hs.frzAll X.hsrc ids) (subFree_frzAll hsf ids) hmem' hil (by rw [htl]; exact c2) hzz g1 t1 t2 hrv
  unfold Oper.wp
  have hlen' : us.length = inf.size := by rw [hall.length]; exact c1
  have hrun' : (execOp a.eval o).run X.P w = .ok .skip w' := by
    simp [execOp, hop, Instr.storeAt, hpv, Instr.sureAddr, storeVar, run_sizeOf hi, hvs, hlen', hrun]
  rw [hrun']
  simp only [Oper.upon, hdst]
  exact hK _ _ ⟨⟨c, ow', hsim, hpin⟩, hb.trans hbel, hn⟩ (rec_store hop hdst hbel.size)

/-- A cell of a slice's element turns from one plain value to another. -/
theorem win_store {M : Nat → Prop} {c : Cx} {ow : Nat → Option Nat} {P : Program} {q k i off : Nat} {t : Ty} {l : List (den t)} {z : den t} (h : WinOk M c ow w q k t l) (hi : i < l.length) {τ : T} {u v0 : Value} (ho : off < k) (hold : (cells t l[i])[off]? = some (.lit v0)) (hz : cells t z = sp (cells t l[i]) off [τ]) (hu : Rep w u τ []) {g b0 n cap : Nat} (hrv : c.rv q = .slice (some ⟨g, b0, none⟩) n cap) :
    ∃ w', (storeCells ⟨g, b0 + (i * k + off), none⟩ [u]).run P w = .ok () w' ∧ WinOk M c ow w' q k t (l.set i z) ∧ (∀ b, b ≠ g → w'.heap[b]? = w.heap[b]?) ∧ w'.heap.size = w.heap.size ∧ w'.os = w.os ∧ w'.tape = w.tape ∧ w'.output = w.output ∧ M g ∧ ow g = some q := by
  obtain ⟨h0, h1, G, h2, h3, h4⟩ := h
  have hkk : ∀ y ∈ l.map (cells t), y.length = k := fun y hy => by obtain ⟨y', _, rfl⟩ := List.mem_map.1 hy; rw [cells_len, h1]
  rw [hrv] at h2
  simp only [leafT] at h2
  generalize hes : l.map (cells t) = es at h2
  cases h2 with
  | nil hc =>
    have : l = [] := by simpa using hes
    subst this
    simp at hi
  | @cons b off' n' cap' k' es xs G' hnn hp0 hk0 hk' hc hm hxl hcell hr =>
    subst hes
    have hkk' : k' = k := by
      obtain ⟨y, hy⟩ := List.exists_mem_of_length_pos (l := l.map (cells t)) (by simp; omega)
      rw [← hk' y hy, hkk y hy]
    subst hkk'
    obtain ⟨hMg, howg, cs, e, hh⟩ := h4 g (List.mem_cons_self ..)
    rw [List.length_map] at hnn
    subst hnn
    have hik : i * k' + k' ≤ l.length * k' := by rw [← Nat.succ_mul]; exact Nat.mul_le_mul_right _ hi
    have hlt : i * k' + off < xs.length := by omega
    have hcell' := hcell (i * k' + off) _ (List.getElem?_eq_getElem hlt)
    have hbound : b0 + (i * k' + off) < cs.size := by
      simp only [World.cell?, hh] at hcell'
      exact (Array.getElem?_eq_some_iff.1 hcell').1
    have hrun := run_storeCells_at (P := P) g (b0 + (i * k' + off)) e [u] 0 cs w hh (by simp; omega) (by intro x hx; rw [List.mem_singleton.1 hx]; exact rep_one hu)
    simp only [Nat.add_zero, List.length_singleton] at hrun
    have hother : ∀ b, b ≠ g → (w.setRow g (cs.toList.take (b0 + (i * k' + off)) ++ [u] ++ cs.toList.drop (b0 + (i * k' + off) + 1)).toArray).heap[b]? = w.heap[b]? := by
      intro b hne
      simp only [World.setRow, Array.getElem?_modify]
      rw [if_neg (Ne.symm hne)]
    have hgG : ∀ b ∈ G', b ≠ g := fun b hb e => (List.nodup_cons.1 h3).1 (e ▸ hb)
    have hnew := setRow_heap w g cs (cs.toList.take (b0 + (i * k' + off)) ++ [u] ++ cs.toList.drop (b0 + (i * k' + off) + 1)).toArray e (0, 0) hh
    refine ⟨_, hrun, ?_, hother, by simp [World.setRow], rfl, rfl, rfl, hMg, howg⟩
    have s1 : ((l.set i z).map (cells t)).flatten = sp (l.map (cells t)).flatten (i * k' + off) [τ] := by
      rw [leafT_map, flatten_set hkk (by simpa using hi) (by rw [cells_len, h1]), hz]
      refine sp_sp (flatten_get hkk (by simp [hi])).symm ?_ (by simp; omega)
      rw [flatten_length hkk, List.length_map]
      exact hik
    obtain ⟨F1, F2, F3, a1, a2, a3, a4⟩ := hr.parts (i * k' + off) 1
    have hmid : ((l.map (cells t)).flatten.drop (i * k' + off)).take 1 = [.lit v0] := by
      have hfg := flatten_get hkk (i := i) (e := cells t l[i]) (by simp [hi])
      have : ((l.map (cells t)).flatten)[i * k' + off]? = some (.lit v0) := by
        have h5 : (((l.map (cells t)).flatten.drop (i * k')).take k')[off]? = some (.lit v0) := by rw [hfg]; exact hold
        rw [List.getElem?_take, if_pos ho, List.getElem?_drop] at h5
        exact h5
      rw [List.take_one, List.head?_drop, this]
      rfl
    rw [hmid] at a2
    have hF2 : F2 = [] := by
      generalize hxs : (xs.drop (i * k' + off)).take 1 = ys at a2
      cases a2 with
      | cons p1 p2 => cases p1; cases p2; rfl
    subst hF2
    rw [List.nil_append] at a4
    have hrep : RepL w (sp xs (i * k' + off) [u]) (sp (l.map (cells t)).flatten (i * k' + off) [τ]) G' := by
      have := (a1.append (RepL.cons hu RepL.nil)).append a3
      rw [a4]
      simpa [sp] using this
    rw [← s1] at hrep
    refine ⟨h0, h1, g :: G', ?_, h3, fun b hb => ⟨(h4 b hb).1, (h4 b hb).2.1, ?_⟩⟩
    · rw [hrv]
      simp only [leafT]
      refine .cons (k := k') (by simp) hp0 hk0 (fun y hy => by obtain ⟨y', _, rfl⟩ := List.mem_map.1 hy; rw [cells_len, h1]) hc hm (by rw [sp_length (by simp; omega)]; exact hxl) (fun j x hx => ?_) (hrep.frame fun b hb => hother b (hgG b hb))
      simp only [World.cell?, hnew]
      have hjlt : j < xs.length := by have := (List.getElem?_eq_some_iff.1 hx).1; rw [sp_length (by simp; omega)] at this; exact this
      have hold' := hcell j _ (List.getElem?_eq_getElem hjlt)
      simp only [World.cell?, hh] at hold'
      have hcs : (cs.toList.take (b0 + (i * k' + off)) ++ [u] ++ cs.toList.drop (b0 + (i * k' + off) + 1)) = cs.toList.set (b0 + (i * k' + off)) u := by
        rw [List.set_eq_take_append_cons_drop, if_pos (by simpa using hbound)]
        simp
      have hsp : sp xs (i * k' + off) [u] = xs.set (i * k' + off) u := by
        unfold sp
        rw [List.set_eq_take_append_cons_drop, if_pos hlt]
        simp
      rw [hsp] at hx
      rw [hcs]
      rw [List.getElem?_set] at hx
      have hgoal : (cs.toList.set (b0 + (i * k' + off)) u)[b0 + j]? = some x := by
        rw [List.getElem?_set]
        split at hx
        · rename_i e1
          rw [if_pos (by omega)]
          rw [if_pos (by simpa using hbound)]
          exact hx
        · rename_i e1
          rw [if_neg (by omega)]
          rw [List.getElem?_eq_getElem hjlt] at hx
          rw [← hx]
          simpa using hold'
      simpa using hgoal
    · by_cases hbg : b = g
      · subst hbg; exact ⟨_, e, hnew⟩
      · exact (h4 b hb).2.2.keep (hother b hbg)
theorem flat_lit : ∀ {t : Ty} {x : den t} {v : Value} {G : List Nat}, Rep w v (leafT t x) G → flat t = true → G = [] ∧ ∃ u, leafT t x = .lit u
  | .int _, _, _, _, h, _ => by cases h; exact ⟨rfl, _, rfl⟩
  | .bool, _, _, _, h, _ => by cases h; exact ⟨rfl, _, rfl⟩
  | .str, _, _, _, h, _ => by cases h; exact ⟨rfl, _, rfl⟩
  | .sl t, _, _, _, h, hn => by cases hn
  | .pair _ _, _, _, _, h, _ => by cases h
theorem split_get : ∀ (t : Ty) (x : den t) {i : Nat} {t' : Ty} {y : den t'}, (split t x)[i]? = some (.v t' y) → (cells t x)[i]? = some (leafT t' y) ∧ ∀ a b, t' ≠ .pair a b
  | .int k, x, i, t', y, h => by cases i with | zero => simp [split] at h; obtain ⟨rfl, h⟩ := h; subst h; exact ⟨rfl, by simp⟩ | succ i => simp [split] at h
  | .bool, x, i, t', y, h => by cases i with | zero => simp [split] at h; obtain ⟨rfl, h⟩ := h; subst h; exact ⟨rfl, by simp⟩ | succ i => simp [split] at h
  | .str, x, i, t', y, h => by cases i with | zero => simp [split] at h; obtain ⟨rfl, h⟩ := h; subst h; exact ⟨rfl, by simp⟩ | succ i => simp [split] at h
  | .sl t, x, i, t', y, h => by cases i with | zero => simp [split] at h; obtain ⟨rfl, h⟩ := h; subst h; exact ⟨rfl, by simp⟩ | succ i => simp [split] at h
  | .pair a b, x, i, t', y, h => by
    simp only [split, cells] at h ⊢
    rw [List.getElem?_append] at h ⊢
    rw [split_len] at h
    rw [cells_len]
    split at h
    · rename_i hlt; rw [if_pos hlt]; exact split_get a x.1 h
    · rename_i hlt; rw [if_neg hlt]; exact split_get b x.2 h
theorem storeWin_goes (h : At X f a w) (hsf : f.subFree) {t : TypeId} {p x : Operand} {q k i off : Nat} {y : A} {inf : TypeInfo} {ty tz ty' : Ty} {l : List (den ty)} {el el' : den ty} {z : den tz} {z' : den ty'} (hop : o.op = .store t p x) (hdst : o.dst = none) (hp : f.getC p = some (.rp q k i off)) (hx : f.get x = some (.val y)) (hi : X.P.info? t = some inf) (hrow : f.obj q = some (.win k ty l))
    (c1 : y.cells.length = inf.size) (c2 : inf.size = 1) (c3 : off < k) (hel : l[i]? = some el) (hy : y.cells = [.v tz z]) (hold : (split ty el)[off]? = some (.v ty' z')) (hf1 : flat tz = true) (hf2 : flat ty' = true) (hd : f.dataL ty (sp (split ty el) off [.v tz z]) = some (el', []))
    (hk : K (f.setOb q (.win k ty (l.set i el'))) = some r) : Goes X E o a w f K r := by
  refine ⟨_, hk, Ext.setOb f q _, fun Kp Q hK => ?_⟩
  obtain ⟨⟨c, ow, hs, hpin⟩, hb, hn⟩ := id h
  obtain ⟨g, b0, nn, cap, hrv, hpv⟩ := hs.getC hp
  obtain ⟨m, hmem⟩ := obj_mem hrow
  have hwin : WinOk X.M c ow w q k ty l := hs.ob _ _ _ hmem
  have hsol : y.cells.all C.solid = true := by rw [hy]; rfl
  obtain ⟨us, hvs, hall, hone⟩ := solid_cells hs.rvs (hs.get hx) hsol
  rw [hy] at hall
  have hil : i < l.length := (List.getElem?_eq_some_iff.1 hel).1
  have hele : l[i] = el := (List.getElem?_eq_some_iff.1 hel).2
  obtain ⟨ts, hts, hzz⟩ := dataL_sp (f := f) (by simp; rw [hwin.2.1]; exact c3) hd
  cases hts with
  | @cons _ τ _ _ hτ hnil =>
    cases hnil
    have hτe := DT_v hτ
    subst hτe
    generalize hus : us = us' at hall
    cases hall with
    | @cons u _ _ _ hru hnil =>
      cases hnil
      obtain ⟨G, hrep, _⟩ := hru
      obtain ⟨rfl, _⟩ := flat_lit hrep hf1
      obtain ⟨hcell, hnp⟩ := split_get ty el hold
      have hv0 : ∃ v0, leafT ty' z' = .lit v0 := by
        cases ty' with
        | int k => exact ⟨_, rfl⟩
        | bool => exact ⟨_, rfl⟩
        | str => exact ⟨_, rfl⟩
        | sl t => cases hf2
        | pair a b => exact absurd rfl (hnp a b)
      obtain ⟨v0, hv0⟩ := hv0
      rw [hv0, ← hele] at hcell
      rw [← hele] at hzz
      obtain ⟨w', hrun, hwin', hoth, hsz, e1, e2, e3, hMg, howg⟩ := win_store (P := X.P) hwin hil c3 hcell hzz hrep hrv
      have h1 := hs.turn hsf (ow' := ow) (y := .win k ty (l.set i el')) (w' := w') hmem (by omega) (fun b hlt hnb => hoth b fun e => hnb (e ▸ howg)) (fun b _ hy => hy) (fun b o _ _ _ => Iff.rfl) (fun ok' _ _ => hwin')
      unfold Oper.wp
      have hrun' : (execOp a.eval o).run X.P w = .ok .skip w' := by
        simp [execOp, hop, Instr.storeAt, hpv, Instr.sureAddr, storeVar, run_sizeOf hi, hvs, hus, c2, hrun]
      rw [hrun']
      simp only [Oper.upon, hdst]
      exact hK _ _ ⟨⟨c, ow, h1, hpin⟩, hb.trans ⟨e1, e2, e3, by omega, fun b hlt hnm => hoth b fun e => hnm (e ▸ hMg)⟩, hn⟩ (rec_store hop hdst (by omega))
end
end Go.V
