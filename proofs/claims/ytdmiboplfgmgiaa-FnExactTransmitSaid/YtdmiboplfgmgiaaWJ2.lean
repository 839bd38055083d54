/-
  A call of a callee that writes into windows: what is handed over and what comes back. Over any program. Conditions: none.
-/
import Derived.Test.YtdmiboplfgmgiaaWJ
set_option linter.unusedVariables false
set_option linter.unusedSectionVars false
namespace Go.V
open Go.Ab Go.RowKit

/-- A slice within a slice: it may be another while the rest stays. -/
theorem rep_part {w : World} {V : Value} {es : List (List T)} {F : List Nat} (h : Rep w V (.sl es) F) {k i off : Nat} {el : List T} {τ : T} (hk : ∀ e ∈ es, e.length = k) (hi : es[i]? = some el) (ho : el[off]? = some τ) {g b0 n cap : Nat} (hV : V = .slice (some ⟨g, b0, none⟩) n cap) {v : Value} (hv : w.cell? ⟨g, b0 + (i * k + off), none⟩ = some v) :
    ∃ F1 G F3, F = g :: (F1 ++ (G ++ F3)) ∧ Rep w v τ G ∧ ∀ (w' : World) (τ' : T) (G' : List Nat), Rep w' v τ' G' → (∀ b ∈ g :: (F1 ++ F3), w'.heap[b]? = w.heap[b]?) → Rep w' V (.sl (es.set i (sp el off [τ']))) (g :: (F1 ++ (G' ++ F3))) := by
  subst hV
  cases h with
  | nil hc => simp at hi
  | @cons b off' n' cap' k' es xs F' hnn hp0 hk0 hk' hc hm hxl hcell hr =>
    have hin : i < es.length := (List.getElem?_eq_some_iff.1 hi).1
    have hkk : k' = k := by rw [← hk' el (List.mem_of_getElem? hi), hk el (List.mem_of_getElem? hi)]
    subst hkk
    have hel : el.length = k' := hk el (List.mem_of_getElem? hi)
    have hok : off < k' := by rw [← hel]; exact (List.getElem?_eq_some_iff.1 ho).1
    have hik : i * k' + k' ≤ es.length * k' := by rw [← Nat.succ_mul]; exact Nat.mul_le_mul_right _ hin
    have hlt : i * k' + off < xs.length := by rw [hxl, ← hnn]; omega
    obtain ⟨F1, F2, F3, a1, a2, a3, a4⟩ := hr.parts (i * k' + off) 1
    have hmid : (es.flatten.drop (i * k' + off)).take 1 = [τ] := by
      have hfg := flatten_get hk hi
      have : (es.flatten)[i * k' + off]? = some τ := by
        have h5 : ((es.flatten.drop (i * k')).take k')[off]? = some τ := by rw [hfg]; exact ho
        rw [List.getElem?_take, if_pos hok, List.getElem?_drop] at h5
        exact h5
      rw [List.take_one, List.head?_drop, this]
      rfl
    have hxv : xs[i * k' + off] = v := by
      have := hcell (i * k' + off) _ (List.getElem?_eq_getElem hlt)
      rw [hv] at this
      injection this with this
      exact this.symm
    have hxm : (xs.drop (i * k' + off)).take 1 = [v] := by
      rw [List.take_one, List.head?_drop, List.getElem?_eq_getElem hlt, hxv]; rfl
    rw [hmid, hxm] at a2
    cases a2 with
    | @cons _ _ G _ _ _ p1 p2 =>
      cases p2
      refine ⟨F1, G, F3, by rw [a4]; simp, p1, fun w' τ' G' hr' hb => ?_⟩
      have hrep : RepL w' xs (sp es.flatten (i * k' + off) [τ']) (F1 ++ (G' ++ F3)) := by
        have q1 := a1.frame (w' := w') fun b hb' => hb b (by simp [hb'])
        have q3 := a3.frame (w' := w') fun b hb' => hb b (by simp [hb'])
        have := (q1.append (RepL.cons hr' RepL.nil)).append q3
        have hxs : xs.take (i * k' + off) ++ [v] ++ xs.drop (i * k' + off + 1) = xs := by
          rw [← hxv, List.append_assoc, List.singleton_append, List.getElem_cons_drop, List.take_append_drop]
        rw [hxs] at this
        simpa [sp] using this
      refine .cons (k := k') (by simpa using hnn) hp0 hk0 (fun e he => ?_) hc hm hxl (fun j u hu => ?_) ?_
      · rcases List.mem_or_eq_of_mem_set he with he | rfl
        · exact hk e he
        · rw [sp_length (by simp; omega)]; exact hel
      · exact (World.cell?_of_block (hb g (by simp))).trans (hcell j u hu)
      · rw [flatten_set hk hin (by rw [sp_length (by simp; omega)]; exact hel), sp_sp (flatten_get hk hi).symm (by rw [flatten_length hk]; exact hik) (by simp; omega)]
        exact hrep

/-! ### what is handed over -/
section
variable {M src : Nat → Prop} {c : Cx} {ow : Nat → Option Nat} {f : F} {a : Act} {w : World}

inductive TgtR (f : F) : Nat → Ty → C → Tgt → Prop
  | whole {r k : Nat} {t : Ty} {l : List (den t)} (h : f.obj r = some (.win k t l)) : TgtR f k t (.row r) (.whole r k t l)
  | part {r k k1 i off : Nat} {t t0 T0 : Ty} {x0 : List (den t0)} {L : List (den T0)} {el : den T0} {l : List (den t)} (h : f.obj r = some (.win k1 T0 L)) (hi : L[i]? = some el) (ho : (split T0 el)[off]? = some (.v (.sl t) l)) (hk : tyLn t = k) : TgtR f k t (.sub r k1 i off t0 x0) (.part r k1 i off T0 L el t l)
inductive TgtsR (f : F) : List (Nat × OT) → List (Nat × C) → List Tgt → Prop
  | nil : TgtsR f [] [] []
  | cons {p k : Nat} {t : Ty} {y : C} {x : Tgt} {hs : List (Nat × OT)} {cs : List (Nat × C)} {xs : List Tgt} (h : TgtR f k t y x) (hs' : TgtsR f hs cs xs) : TgtsR f ((p, .win k t) :: hs) ((p, y) :: cs) (x :: xs)

theorem evTgt_some {R : Type} {k : Nat} {t : Ty} {K : Tgt → Option R} {y : C} {r : R} (h : evTgt f k t K y = some r) : ∃ x, TgtR f k t y x ∧ K x = some r := by
  unfold evTgt at h
  split at h
  · split at h
    · rename_i hob
      split at h
      · rename_i hc
        obtain ⟨rfl, rfl⟩ := hc
        exact ⟨_, .whole hob, h⟩
      · cases h
    · cases h
  · split at h
    · rename_i hob
      split at h
      · rename_i hk
        subst hk
        obtain ⟨el, hel, h'⟩ := bind_some h
        split at h'
        · rename_i t' l hsp
          split at h'
          · rename_i hc
            obtain ⟨rfl, hk⟩ := hc
            exact ⟨_, .part hob hel hsp hk, h'⟩
          · cases h'
        · cases h'
      · cases h
    · cases h
  · cases h
theorem evTgts_some {R : Type} : ∀ {hs : List (Nat × OT)} {cs : List (Nat × C)} {K : List Tgt → Option R} {r : R}, evTgts f hs cs K = some r → ∃ xs, TgtsR f hs cs xs ∧ K xs = some r
  | [], [], K, r, h => ⟨[], .nil, h⟩
  | [], _ :: _, K, r, h => by cases h
  | (p, .win k t) :: hs, (q, y) :: cs, K, r, h => by
    simp only [evTgts] at h
    split at h
    · rename_i hpq
      subst hpq
      obtain ⟨x, h1, h2⟩ := evTgt_some h
      obtain ⟨xs, h3, h4⟩ := evTgts_some h2
      exact ⟨x :: xs, .cons h1 h3, h4⟩
    · cases h
  | (p, .keep) :: _, _, K, r, h => by simp [evTgts] at h
  | (p, .box _) :: _, _, K, r, h => by simp [evTgts] at h
  | (p, .row _ _ _ _) :: _, _, K, r, h => by simp [evTgts] at h
  | (p, .win _ _) :: _, [], K, r, h => by simp [evTgts] at h

theorem tyLen_pos : ∀ t : Ty, 0 < tyLen t
  | .pair a b => by have := tyLen_pos a; simp only [tyLen]; omega
  | .int _ => Nat.zero_lt_one
  | .bool => Nat.zero_lt_one
  | .str => Nat.zero_lt_one
  | .sl _ => Nat.zero_lt_one
theorem tyLn_eq' : ∀ t : Ty, tyLn t = tyLen t
  | .pair a b => by simp [tyLn, tyLen, tyLn_eq' a, tyLn_eq' b]
  | .int _ => rfl
  | .bool => rfl
  | .str => rfl
  | .sl _ => rfl

/-- What holds of a window that is handed over, its value v and blocks G. -/
structure TgtOk (M : Nat → Prop) (c : Cx) (ow : Nat → Option Nat) (f : F) (w : World) (k : Nat) (t : Ty) (x : Tgt) (v : Value) (G : List Nat) : Prop where
  kt : 0 < k ∧ tyLen t = k
  tv : ∃ l, x.tv = ⟨.sl t, l⟩ ∧ Rep w v (leafT (.sl t) l) G
  nodup : G.Nodup
  own : ∀ b ∈ G, M b ∧ ow b = some x.root ∧ Unf w b
  here : ∃ k T L, f.obj x.root = some (.win k T L)
  back : ∀ (w' : World) (G' : List Nat) (k' : Nat) (t' : Ty) (l' : List (den t')) (f1 g : F), Rep w' v (leafT (.sl t') l') G' → G'.Nodup → x.upd f1 (.win k' t' l') = some g → (∀ b, b < w.heap.size → ow b = some x.root → b ∉ G → w'.heap[b]? = w.heap[b]?) → (∀ b ∈ G', b < w.heap.size → ow b = some x.root → b ∈ G) →
    ∃ k T L Gr, g = f1.setOb x.root (.win k T L) ∧ 0 < k ∧ tyLen T = k ∧ Rep w' (c.rv x.root) (leafT (.sl T) L) Gr ∧ Gr.Nodup ∧ ∀ b ∈ Gr, (b < w.heap.size ∧ ow b = some x.root ∧ b ∉ G ∧ M b ∧ Unf w b) ∨ b ∈ G'

theorem set_get {α : Type} {l : List α} {i : Nat} {x : α} (h : l[i]? = some x) : i < l.length := (List.getElem?_eq_some_iff.1 h).1

theorem tgt_ok (h : SimC M src c ow f a w) {k : Nat} {t : Ty} {y : C} {x : Tgt} (hx : TgtR f k t y x) {v : Value} (hv : RelC c ow w (okB src c ow f.ob) v y) : ∃ G, TgtOk M c ow f w k t x v G := by
  cases hx with
  | @whole r k t l hob =>
    have hv : v = c.rv r := hv
    subst hv
    obtain ⟨h0, h1, G, h2, h3, h4⟩ := (h.obj hob : WinOk M c ow w r k t l)
    refine ⟨G, ⟨h0, h1⟩, ⟨l, rfl, h2⟩, h3, h4, ⟨_, _, _, hob⟩, fun w' G' k' t' l' f1 g hr hn hu hb hG => ?_⟩
    simp only [Tgt.upd] at hu
    split at hu
    · obtain ⟨z, hz, rfl⟩ := Option.map_eq_some_iff.1 hu
      obtain ⟨e, hz⟩ := castTy_some hz
      injection e with e
      subst e
      have hz : l' = z := hz
      subst hz
      exact ⟨k, _, _, G', rfl, h0, h1, hr, hn, fun b hb => .inr hb⟩
    · cases hu
  | @part r k k1 i off t t0 T0 x0 L el l hob hi ho hk =>
    obtain ⟨g, b0, n, cap, hrv, hcell, _⟩ := hv
    obtain ⟨h0, h1, Gr, h2, h3, h4⟩ := (h.obj hob : WinOk M c ow w r k1 T0 L)
    have hkk : ∀ e ∈ L.map (cells T0), e.length = k1 := fun e he => by obtain ⟨e', _, rfl⟩ := List.mem_map.1 he; rw [cells_len, h1]
    have hel : (L.map (cells T0))[i]? = some (cells T0 el) := by simp [hi]
    obtain ⟨hcl, _⟩ := split_get T0 el ho
    obtain ⟨F1, G, F3, e1, p1, p2⟩ := rep_part (h2 : Rep w (c.rv r) (.sl (L.map (cells T0))) Gr) hkk hel hcl hrv hcell
    have hsub : ∀ b ∈ G, b ∈ Gr := fun b hb => by rw [e1]; simp [hb]
    have hnd : (g :: (F1 ++ (G ++ F3))).Nodup := by rw [← e1]; exact h3
    have hndG : G.Nodup := (List.nodup_append.1 (List.nodup_append.1 (List.nodup_cons.1 hnd).2).2.1).1
    have hoff : ∀ b, b ∈ g :: (F1 ++ F3) → b ∈ Gr ∧ b ∉ G := by
      intro b hb
      rw [e1]
      simp only [List.nodup_cons, List.nodup_append, List.mem_append, not_or] at hnd
      obtain ⟨⟨n1, n2, n3⟩, n4, ⟨n5, n6, n7⟩, n8⟩ := hnd
      simp only [List.mem_cons, List.mem_append] at hb ⊢
      rcases hb with rfl | hb | hb
      · exact ⟨.inl rfl, n2⟩
      · exact ⟨.inr (.inl hb), fun hG => n8 b hb b (.inl hG) rfl⟩
      · exact ⟨.inr (.inr (.inr hb)), fun hG => n7 b hG b hb rfl⟩
    refine ⟨G, ⟨by rw [← hk, tyLn_eq']; exact tyLen_pos t, by rw [← hk, tyLn_eq']⟩, ⟨l, rfl, p1⟩, hndG, fun b hb => h4 b (hsub b hb), ⟨_, _, _, hob⟩, fun w' G' k' t' l' f1 g' hr hn hu hb hG => ?_⟩
    simp only [Tgt.upd] at hu
    split at hu
    · rename_i el' hd
      injection hu with hu
      subst hu
      have hlt : off < k1 := by
        have := set_get hcl
        rw [cells_len, h1] at this
        exact this
      obtain ⟨ts, hts, hzz⟩ := dataL_sp (f := F0) (by simp; rw [h1]; exact hlt) hd
      cases hts with
      | @cons _ τ _ _ hτ hnil =>
        cases hnil
        have hτe := DT_v hτ
        subst hτe
        have hstay : ∀ b ∈ g :: (F1 ++ F3), w'.heap[b]? = w.heap[b]? := fun b hb' => by
          obtain ⟨q1, q2⟩ := hoff b hb'
          obtain ⟨q3, q4, q5⟩ := h4 b q1
          exact hb b q5.lt q4 q2
        have hrep := p2 w' _ G' hr hstay
        refine ⟨k1, T0, L.set i el', g :: (F1 ++ (G' ++ F3)), rfl, h0, h1, ?_, ?_, fun b hb' => ?_⟩
        · simp only [leafT]
          rw [leafT_map, hzz]
          exact hrep
        · have hdis : ∀ b ∈ G', b ∉ g :: (F1 ++ F3) := fun b hb' hm => by
            obtain ⟨q1, q2⟩ := hoff b hm
            obtain ⟨q3, q4, q5⟩ := h4 b q1
            exact q2 (hG b hb' q5.lt q4)
          simp only [List.nodup_cons, List.nodup_append, List.mem_append, not_or] at hnd ⊢
          obtain ⟨⟨n1, n2, n3⟩, n4, ⟨n5, n6, n7⟩, n8⟩ := hnd
          refine ⟨⟨n1, fun hm => hdis g hm (List.mem_cons_self ..), n3⟩, n4, ⟨hn, n6, fun x hx y hy e => ?_⟩, fun x hx y hy e => ?_⟩
          · subst e; exact hdis x hx (by simp [hy])
          · subst e
            rcases hy with hy | hy
            · exact hdis x hy (by simp [hx])
            · exact n8 x hx x (.inr hy) rfl
        · have : b ∈ g :: (F1 ++ F3) ∨ b ∈ G' := by
            simp only [List.mem_cons, List.mem_append] at hb' ⊢
            rcases hb' with h | h | h | h
            · exact .inl (.inl h)
            · exact .inl (.inr (.inl h))
            · exact .inr h
            · exact .inl (.inr (.inr h))
          rcases this with h | h
          · obtain ⟨q1, q2⟩ := hoff b h
            obtain ⟨q3, q4, q5⟩ := h4 b q1
            exact .inl ⟨q5.lt, q4, q2, q3, q5⟩
          · exact .inr h
    · cases hu

/-- The value of a cell that is handed over as a window is one. -/
theorem tgt_val {ok : Nat → Prop} {k : Nat} {t : Ty} {y : C} {x : Tgt} (hx : TgtR f k t y x) {v v' : Value} (hv : RelC c ow w ok v y) (hv' : RelC c ow w ok v' y) : v = v' := by
  cases hx with
  | whole hob => exact Eq.trans hv (Eq.symm hv')
  | part hob hi ho hk =>
    obtain ⟨g, b0, n, cap, h1, h2, _⟩ := hv
    obtain ⟨g', b0', n', cap', h1', h2', _⟩ := hv'
    rw [h1] at h1'
    injection h1' with e1 e2 e3
    injection e1 with e1
    injection e1 with e1 e0 _
    subst e1 e0
    rw [h2] at h2'
    injection h2'

/-! ### arguments -/
def ArgWC (f : F) (ps : List (Nat × C)) (d x : C) : Prop := (∃ (t : Ty) (y : den t), d = .v t y ∧ flat t = true ∧ f.data t x = some y) ∨ ∃ p, d = .row p ∧ (p, x) ∈ ps
theorem ArgWC.mono {ps qs : List (Nat × C)} {d x : C} (h : ArgWC f ps d x) (hs : ∀ e ∈ ps, e ∈ qs) : ArgWC f qs d x := by
  rcases h with h | ⟨p, h1, h2⟩
  · exact .inl h
  · exact .inr ⟨p, h1, hs _ h2⟩
theorem argWC_inj {ct : CT} {x : C} {tvs : List TV} {ps : List (Nat × C)} (h : argWC f ct x = some (tvs, ps)) (rest : List TV) : ∃ d, ct.inj (tvs ++ rest) = some (d, rest) ∧ ArgWC f ps d x := by
  cases ct with
  | var t =>
    simp only [argWC] at h
    split at h
    · rename_i hfl
      obtain ⟨y, hy, he⟩ := Option.map_eq_some_iff.1 h
      injection he with e1 e2
      subst e1 e2
      exact ⟨.v t y, by show (castTy t t y).map _ = _; rw [castTy_self]; rfl, .inl ⟨t, y, rfl, hfl, hy⟩⟩
    · cases h
  | row p =>
    injection h with h
    injection h with e1 e2
    subst e1 e2
    exact ⟨.row p, rfl, .inr ⟨p, rfl, List.mem_singleton.2 rfl⟩⟩
  | _ => cases h
theorem argWL_inj : ∀ {cts : List CT} {cs : List C} {tvs : List TV} {ps : List (Nat × C)}, argWL f cts cs = some (tvs, ps) → ∀ rest, ∃ ds, injL cts (tvs ++ rest) = some (ds, rest) ∧ All2 (ArgWC f ps) ds cs
  | [], [], tvs, ps, h, rest => by injection h with h; injection h with e1 e2; subst e1 e2; exact ⟨[], rfl, .nil⟩
  | [], _ :: _, tvs, ps, h, rest => by cases h
  | _ :: _, [], tvs, ps, h, rest => by cases h
  | ct :: cts, x :: xs, tvs, ps, h, rest => by
    simp only [argWL] at h
    split at h
    · rename_i a p b q h1 h2
      injection h with h
      injection h with e1 e2
      subst e1 e2
      obtain ⟨ds, g1, g2⟩ := argWL_inj h2 rest
      obtain ⟨d, g3, g4⟩ := argWC_inj h1 (b ++ rest)
      refine ⟨d :: ds, ?_, .cons (g4.mono fun e he => List.mem_append_left _ he) (g2.mono fun d x _ hr => hr.mono fun e he => List.mem_append_right _ he)⟩
      rw [List.append_assoc]
      simp [injL, g3, g1]
    · cases h
def ArgWA (f : F) (ps : List (Nat × C)) : A → A → Prop
  | .one d, .one x => ArgWC f ps d x
  | .agg ds, .agg xs => All2 (ArgWC f ps) ds xs
  | _, _ => False
theorem ArgWA.mono {ps qs : List (Nat × C)} {d x : A} (h : ArgWA f ps d x) (hs : ∀ e ∈ ps, e ∈ qs) : ArgWA f qs d x := by
  cases d with
  | one d => cases x with
    | one x => exact ArgWC.mono h hs
    | agg x => exact h
  | agg d => cases x with
    | one x => exact h
    | agg x => exact All2.mono h fun _ _ _ hr => ArgWC.mono hr hs
inductive ArgsWR (f : F) (ps : List (Nat × C)) : Nat → List (Nat × Nat × S) → List Operand → Prop
  | nil {i : Nat} : ArgsWR f ps i [] []
  | cons {i : Nat} {d y : A} {x : Operand} {fr : List (Nat × Nat × S)} {xs : List Operand} (hx : f.get x = some (.val y)) (h : ArgWA f ps d y) (hs : ArgsWR f ps (i + 1) fr xs) : ArgsWR f ps i ((i, 0, .val d) :: fr) (x :: xs)
theorem ArgsWR.mono {ps qs : List (Nat × C)} (hs : ∀ e ∈ ps, e ∈ qs) {i : Nat} {fr : List (Nat × Nat × S)} {xs : List Operand} (h : ArgsWR f ps i fr xs) : ArgsWR f qs i fr xs := by
  induction h with
  | nil => exact .nil
  | cons hx h _ ih => exact .cons hx (h.mono hs) ih
theorem ArgsWR.mem {ps : List (Nat × C)} {i : Nat} {fr : List (Nat × Nat × S)} {xs : List Operand} (h : ArgsWR f ps i fr xs) : ∀ e ∈ fr, ∃ j x d y, e.1 = i + j ∧ xs[j]? = some x ∧ f.get x = some (.val y) ∧ e.2.2 = .val d ∧ ArgWA f ps d y := by
  induction h with
  | nil => intro e he; cases he
  | cons hx ha hs ih =>
    intro e he
    rcases List.mem_cons.1 he with rfl | he
    · exact ⟨0, _, _, _, rfl, rfl, hx, rfl, ha⟩
    · obtain ⟨j, x, d, y, h1, h2, h3⟩ := ih e he
      exact ⟨j + 1, x, d, y, by omega, by simpa using h2, h3⟩
theorem ArgsWR.length {ps : List (Nat × C)} {i : Nat} {fr : List (Nat × Nat × S)} {xs : List Operand} (h : ArgsWR f ps i fr xs) : fr.length = xs.length := by
  induction h with
  | nil => rfl
  | cons _ _ _ ih => simp [ih]
/-- Each pair that is gathered is a cell of an argument. -/
def PsOf (f : F) (ps : List (Nat × C)) (xs : List Operand) : Prop := ∀ e ∈ ps, ∃ x y, x ∈ xs ∧ f.get x = some (.val y) ∧ e.2 ∈ y.cells
theorem argWC_ps {ct : CT} {x : C} {tvs : List TV} {ps : List (Nat × C)} (h : argWC f ct x = some (tvs, ps)) : ∀ e ∈ ps, e.2 = x := by
  cases ct with
  | var t =>
    simp only [argWC] at h
    split at h
    · obtain ⟨y, hy, he⟩ := Option.map_eq_some_iff.1 h
      injection he with e1 e2
      subst e2
      intro e he; cases he
    · cases h
  | row p =>
    injection h with h
    injection h with e1 e2
    subst e2
    intro e he
    rw [List.mem_singleton.1 he]
  | _ => cases h
theorem argWL_ps : ∀ {cts : List CT} {cs : List C} {tvs : List TV} {ps : List (Nat × C)}, argWL f cts cs = some (tvs, ps) → ∀ e ∈ ps, e.2 ∈ cs
  | [], [], tvs, ps, h => by injection h with h; injection h with e1 e2; subst e2; intro e he; cases he
  | [], _ :: _, tvs, ps, h => by cases h
  | _ :: _, [], tvs, ps, h => by cases h
  | ct :: cts, x :: xs, tvs, ps, h => by
    simp only [argWL] at h
    split at h
    · rename_i a p b q h1 h2
      injection h with h
      injection h with e1 e2
      subst e2
      intro e he
      rcases List.mem_append.1 he with he | he
      · rw [argWC_ps h1 e he]; exact List.mem_cons_self ..
      · exact List.mem_cons_of_mem _ (argWL_ps h2 e he)
    · cases h
theorem argsW_inj : ∀ {i : Nat} {hs : List (Nat × ST)} {xs : List Operand} {tvs : List TV} {ps : List (Nat × C)}, argsW f i hs xs = some (tvs, ps) → ∀ rest, ∃ fr, injFr F0 hs (tvs ++ rest) = some (fr, rest) ∧ ArgsWR f ps i fr xs ∧ PsOf f ps xs
  | i, [], [], tvs, ps, h, rest => by injection h with h; injection h with e1 e2; subst e1 e2; exact ⟨[], rfl, .nil, fun e he => by cases he⟩
  | i, [], _ :: _, tvs, ps, h, rest => by cases h
  | i, _ :: _, [], tvs, ps, h, rest => by cases h
  | i, (j, st) :: hs, x :: xs, tvs, ps, h, rest => by
    simp only [argsW] at h
    split at h
    · rename_i hij
      subst hij
      split at h
      · rename_i a p b q h1 h2
        injection h with h
        injection h with e1 e2
        subst e1 e2
        obtain ⟨fr, g1, g2, g5⟩ := argsW_inj h2 rest
        have g2' := g2.mono (qs := p ++ q) fun e he => List.mem_append_right _ he
        have hps : (∀ y, f.get x = some (.val y) → (∀ e ∈ p, e.2 ∈ y.cells) → PsOf f (p ++ q) (x :: xs)) := fun y hg hy e he => by
          rcases List.mem_append.1 he with he | he
          · exact ⟨x, y, List.mem_cons_self .., hg, hy e he⟩
          · obtain ⟨z, u, k1, k2, k3⟩ := g5 e he
            exact ⟨z, u, List.mem_cons_of_mem _ k1, k2, k3⟩
        unfold argWS at h1
        split at h1
        · rename_i ct y hg
          obtain ⟨d, g3, g4⟩ := argWC_inj h1 (b ++ rest)
          refine ⟨(i, 0, .val (.one d)) :: fr, ?_, .cons hg (show ArgWC f _ d y from g4.mono fun e he => List.mem_append_left _ he) g2', hps _ hg fun e he => by rw [argWC_ps h1 e he]; exact List.mem_singleton.2 rfl⟩
          rw [List.append_assoc, injFr, g3]
          simp only [g1]
          rfl
        · rename_i cts ys hg
          obtain ⟨ds, g3, g4⟩ := argWL_inj h1 (b ++ rest)
          refine ⟨(i, 0, .val (.agg ds)) :: fr, ?_, .cons hg (show All2 (ArgWC f _) ds ys from g4.mono fun _ _ _ hr => hr.mono fun e he => List.mem_append_left _ he) g2', hps _ hg fun e he => argWL_ps h1 e he⟩
          rw [List.append_assoc, injFr, g3]
          simp only [g1]
          rfl
        · cases h1
      · cases h
    · cases h
end
end Go.V
