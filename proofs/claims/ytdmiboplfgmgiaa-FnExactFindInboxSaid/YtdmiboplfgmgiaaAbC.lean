/-
  Rows that the call itself makes, on abstract frames: a row is laid, frozen into data, renamed. Over any program. Conditions: none.
-/
import Derived.Test.YtdmiboplfgmgiaaAb9
namespace Go.Ab
open Go.RowKit

/-- A row's handle becomes the data that it holds. -/
def frzT (r : Nat) (es : List (List T)) (t : T) : T :=
  match t with
  | .row r' => if r' = r then .sl es else .row r'
  | .rp r' k i off => if r' = r then .any else .rp r' k i off
  | t => t
def frzV (r : Nat) (es : List (List T)) : AV → AV
  | .one t => .one (frzT r es t)
  | .agg ts => .agg (ts.map (frzT r es))
def frzS (r : Nat) (es : List (List T)) : Slot → Slot
  | .val x => .val (frzV r es x)
  | .tup xs => .tup (xs.map (frzV r es))
def frzO (r : Nat) (es : List (List T)) : LO → LO
  | .box cs => .box (cs.map (frzT r es))
  | x => x
def St.freeze (st : St) (r : Nat) (es : List (List T)) : St :=
  ⟨st.fr.map fun e => (e.1, e.2.1, frzS r es e.2.2), (st.ob.filter fun e => e.1 != r).map fun e => (e.1, frzO r es e.2)⟩

section
variable {B : Nat} {src : Nat → Prop} {c : Cx} {ow : Nat → Option Nat} {st : St} {a : Act} {w : World} {P : Program} {o : Oper}

theorem frzT_sound {ok ok' : Nat → Prop} {r : Nat} {es : List (List T)} {t : T} {v : Value} (h : RelT c w ok v t) (hg : ∀ b, b < w.heap.size → ok b → ok' b) (hr : ∃ F, Rep w (c.rv r) (.sl es) F ∧ ∀ b ∈ F, ok' b) : RelT c w ok' v (frzT r es t) := by
  have kp : Keeps w w ok ok' := ⟨Nat.le_refl _, fun _ _ _ => rfl, hg⟩
  cases t with
  | row r' =>
    simp only [frzT]
    split
    · rename_i he
      subst he
      have : v = c.rv r' := h
      subst this
      exact hr
    · exact h
  | rp r' k i off =>
    simp only [frzT]
    split
    · trivial
    · exact h
  | lit _ => exact h.keep kp
  | sl _ => exact h.keep kp
  | nil => exact h
  | ptr _ _ => exact h
  | ep _ _ => exact h.keep kp
  | any => trivial
theorem All2.map_right {α β γ : Type} {R : α → β → Prop} {S : α → γ → Prop} {f : β → γ} {as : List α} {bs : List β} (h : All2 R as bs) (hf : ∀ a b, R a b → S a (f b)) : All2 S as (bs.map f) := by
  induction h with
  | nil => exact .nil
  | cons h hs ih => exact .cons (hf _ _ h) ih
theorem frzV_sound {ok ok' : Nat → Prop} {r : Nat} {es : List (List T)} {x : AV} {v : Value} (h : RelV c w ok v x) (hg : ∀ b, b < w.heap.size → ok b → ok' b) (hr : ∃ F, Rep w (c.rv r) (.sl es) F ∧ ∀ b ∈ F, ok' b) : RelV c w ok' v (frzV r es x) := by
  cases x with
  | one t => exact frzT_sound h hg hr
  | agg ts => obtain ⟨vs, rfl, ha⟩ := h; exact ⟨vs, rfl, ha.map_right fun u t hu => frzT_sound hu hg hr⟩
theorem frzS_sound {ok ok' : Nat → Prop} {r : Nat} {es : List (List T)} {x : Slot} {v : Value} (h : RelS c w ok v x) (hg : ∀ b, b < w.heap.size → ok b → ok' b) (hr : ∃ F, Rep w (c.rv r) (.sl es) F ∧ ∀ b ∈ F, ok' b) : RelS c w ok' v (frzS r es x) := by
  cases x with
  | val x => exact frzV_sound h hg hr
  | tup xs => obtain ⟨vs, rfl, ha⟩ := h; exact ⟨vs, rfl, ha.map_right fun u t hu => frzV_sound hu hg hr⟩

theorem mem_freeze {r : Nat} {es : List (List T)} {o' : Nat} {x : LO} (h : (o', x) ∈ (st.freeze r es).ob) : o' ≠ r ∧ ∃ y, (o', y) ∈ st.ob ∧ x = frzO r es y := by
  simp only [St.freeze, List.mem_map, List.mem_filter] at h
  obtain ⟨⟨o1, y⟩, ⟨hy, hne⟩, he⟩ := h
  injection he with e1 e2
  subst e1 e2
  exact ⟨by simpa using hne, y, hy, rfl⟩
theorem frzO_main (r : Nat) (es : List (List T)) (o' : Nat) (y : LO) : (frzO r es y).main c o' = y.main c o' := by cases y <;> rfl
theorem live_freeze {r : Nat} {es : List (List T)} {b : Nat} (h : live c (st.freeze r es).ob b) : live c st.ob b := by
  obtain ⟨o', x, hm, hx⟩ := h
  obtain ⟨_, y, hy, rfl⟩ := mem_freeze hm
  exact ⟨o', y, hy, by rw [frzO_main] at hx; exact hx⟩

/-- A row is frozen: what it owned is still marked as its. -/
theorem SimC.freeze (h : SimC B src c ow st a w) (hsrc : ∀ b, B ≤ b → src b) {r e k : Nat} {es : List (List T)} {deep : Bool} (hr : (r, .row e k es deep) ∈ st.ob) : SimC B src c ow (st.freeze r es) a w ∧ RowOk B c ow w (okB src c (st.freeze r es).ob) r e k es deep ∧
    ∀ g, (c.rv r).ownBlock = some g → okB src c (st.freeze r es).ob g := by
  have hok := h.ob _ _ hr
  have hg : ∀ b, b < w.heap.size → okB src c st.ob b → okB src c (st.freeze r es).ob b := fun b _ hb => ⟨hb.1, fun hl => hb.2 (live_freeze hl)⟩
  have hmain : ∀ g, (c.rv r).ownBlock = some g → okB src c (st.freeze r es).ob g := by
    intro g hgb
    obtain ⟨_, _, _, xs, F, r3, _⟩ := id hok
    have hB := (ownsRow_lt r3 hgb).2
    refine ⟨hsrc g hB, fun ⟨o', x, hm, hx⟩ => ?_⟩
    obtain ⟨hne, y, hy, rfl⟩ := mem_freeze hm
    rw [frzO_main] at hx
    exact hne (h.apart hy hr (LO.blk_of_main hx) hgb)
  have hrow := RowOk.keep hok (⟨Nat.le_refl _, fun _ _ _ => rfl, hg⟩ : Keeps w w (okB src c st.ob) (okB src c (st.freeze r es).ob)) (fun _ _ => rfl) (fun _ _ h => h)
  have hdata : ∃ F, Rep w (c.rv r) (.sl es) F ∧ ∀ b ∈ F, okB src c (st.freeze r es).ob b := by
    obtain ⟨r0, r1, r2, xs, F, r3, r4, r5, r6⟩ := hrow
    obtain ⟨G, g1, g2⟩ := Rep_of_owns r3 r0 r1 r4
    exact ⟨G, g1, fun b hb => (g2 b hb).elim (hmain b) (r5 b)⟩
  refine ⟨⟨h.defers, h.base, fun s g x hm => ?_, fun o' x hm => ?_, fun o' x y hx hy => ?_, h.rvs⟩, hrow, hmain⟩
  · simp only [St.freeze, List.mem_map] at hm
    obtain ⟨⟨s', g', x'⟩, hm', he⟩ := hm
    injection he with e1 he
    injection he with e2 e3
    subst e1 e2 e3
    obtain ⟨v, hv, h1, h2⟩ := h.fr _ _ _ hm'
    exact ⟨v, hv, fun hgg => frzS_sound (h1 hgg) hg hdata, h2⟩
  · obtain ⟨hne, y, hy, rfl⟩ := mem_freeze hm
    have ho := h.ob _ _ hy
    cases y with
    | box cs =>
      obtain ⟨b1, b2, vs, ty, b3, b4⟩ := ho
      exact ⟨b1, b2, vs, ty, b3, b4.map_right fun u t hu => frzT_sound hu hg hdata⟩
    | row e' k' es' deep' => exact RowOk.keep ho ⟨Nat.le_refl _, fun _ _ _ => rfl, hg⟩ (fun _ _ => rfl) (fun _ _ h => h)
  · obtain ⟨_, z, hz, rfl⟩ := mem_freeze hx
    obtain ⟨_, z', hz', rfl⟩ := mem_freeze hy
    rw [h.uniq _ _ _ hz hz']

/-- A new row at id d, its handle in slot d. -/
def St.newRow (st : St) (d : Nat) (e k : Nat) (es : List (List T)) (deep : Bool) : St :=
  let s := st.scrub d
  (⟨s.fr, (d, .row e k es deep) :: s.ob⟩ : St).put (some d) none (.val (.one (.row d)))

/-- A new row in new blocks; the blocks of its elements are let, or new; if it is deep they are its own: new, or of an object that is no more. -/
theorem SimC.addRow (h : SimC B src c ow st a w) (hsrc : ∀ b, B ≤ b → src b) {w' : World} {d : Nat} (hf : st.free d) (hs : w.heap.size ≤ w'.heap.size) (hb : ∀ b, b < w.heap.size → w'.heap[b]? = w.heap[b]?) {v : Value} {e k : Nat} {es : List (List T)} {xs : List Value} {F : List Nat} {deep : Bool}
    (hown : w'.ownsRow B e k v es.length xs) (hk0 : 0 < k) (hk : ∀ x ∈ es, x.length = k) (hnew : ∀ g, v.ownBlock = some g → w.heap.size ≤ g) (hrep : RepL w' xs es.flatten F) (hF : ∀ b ∈ F, (b < w.heap.size ∧ okB src c st.ob b) ∨ (w.heap.size ≤ b ∧ v.ownBlock ≠ some b))
    (hdeep : deep = true → F.Nodup ∧ ∀ b ∈ F, B ≤ b ∧ Unf w' b ∧ (b < w.heap.size → ∃ r, ow b = some r ∧ ∀ x, (r, x) ∉ st.ob)) :
    ∃ ow', SimC B src (c.setRv d v) ow' ⟨st.fr, (d, .row e k es deep) :: st.ob⟩ a w' := by
  obtain ⟨ad, cap, hv, _⟩ := ownsRow_len hown
  have hrvs : ∀ r, ∃ ad n k, (c.setRv d v).rv r = .slice ad n k := by
    intro r
    simp only [Cx.setRv]
    split
    · exact ⟨_, _, _, hv⟩
    · exact h.rvs r
  have h' := h.recx hf (c.but_rv d v) hrvs
  have hrv : (c.setRv d v).rv d = v := by simp [Cx.setRv]
  have hokeq : okB src (c.setRv d v) st.ob = okB src c st.ob := okB_but (fun o' x hm => (hf.2 o' x hm).1) (c.but_rv d v)
  let ow' : Nat → Option Nat := fun b => if v.ownBlock = some b ∨ (deep = true ∧ b ∈ F) then some d else ow b
  have hlive : ∀ b, live (c.setRv d v) ((d, .row e k es deep) :: st.ob) b → live (c.setRv d v) st.ob b ∨ v.ownBlock = some b := by
    rintro b ⟨o', x, hm, hx⟩
    rcases List.mem_cons.1 hm with he | hm
    · injection he with e1 e2
      subst e1 e2
      simp only [LO.main, hrv] at hx
      exact .inr hx
    · exact .inl ⟨o', x, hm, hx⟩
  have hlt_live : ∀ b, live (c.setRv d v) st.ob b → b < w.heap.size := fun b ⟨o', x, hm, hx⟩ => ((h'.ob o' x hm).blk (LO.blk_of_main hx)).1
  refine ⟨ow', h'.step (ow' := ow') hs (fun b hlt _ => hb b hlt) (fun b hlt hl => ?_) (fun o' x hm => ?_) (fun o' x y hx hy => ?_)⟩
  · rcases hlive b hl with hl | hvb
    · exact hl
    · have := hnew b hvb; omega
  · rcases List.mem_cons.1 hm with he | hm
    · injection he with e1 e2
      subst e1 e2
      refine .inr ⟨hk0, hk, fun g hg => ?_, xs, F, by rw [hrv]; exact hown, hrep, fun b hbF => ?_, fun hd => ?_⟩
      · rw [hrv] at hg
        simp [ow', hg]
      · rcases hF b hbF with ⟨hlt, hok⟩ | ⟨hge, hne⟩
        · rw [← hokeq] at hok
          refine ⟨hok.1, fun hl => ?_⟩
          rcases hlive b hl with hl | hvb
          · exact hok.2 hl
          · have := hnew b hvb; omega
        · refine ⟨hsrc b (Nat.le_trans h.base hge), fun hl => ?_⟩
          rcases hlive b hl with hl | hvb
          · have := hlt_live b hl; omega
          · exact hne hvb
      · obtain ⟨hnd, hall⟩ := hdeep hd
        refine ⟨hnd, fun b hbF => ?_⟩
        obtain ⟨h1, h2, h3⟩ := hall b hbF
        refine ⟨h1, by simp [ow', hd, hbF], ?_, h2⟩
        rw [hrv]
        intro hvb
        rcases hF b hbF with ⟨hlt, _⟩ | ⟨_, hne⟩
        · have := hnew b hvb; omega
        · exact hne hvb
    · refine .inl ⟨hm, fun b hbb => hb b ((h'.ob o' x hm).blk hbb).1, fun b hlt how => ?_⟩
      show (if v.ownBlock = some b ∨ (deep = true ∧ b ∈ F) then some d else ow b) = some o'
      rw [if_neg]
      · exact how
      · rintro (hvb | ⟨hd, hbF⟩)
        · have := hnew b hvb; omega
        · obtain ⟨_, hall⟩ := hdeep hd
          obtain ⟨_, _, h3⟩ := hall b hbF
          obtain ⟨r, hr1, hr2⟩ := h3 hlt
          rw [hr1] at how
          injection how with how
          subst how
          exact hr2 x hm
  · rcases List.mem_cons.1 hx with he | hx1
    · injection he with e1 e2
      rcases List.mem_cons.1 hy with he' | hy1
      · injection he' with e3 e4
        rw [e2, e4]
      · exact absurd e1 (hf.2 _ _ hy1).1
    · rcases List.mem_cons.1 hy with he' | hy1
      · injection he' with e3 e4
        exact absurd e3 (hf.2 _ _ hx1).1
      · exact h.uniq o' x y hx1 hy1

theorem newRow_put {d : Nat} {v : Value} {ow' : Nat → Option Nat} {e k : Nat} {es : List (List T)} {deep : Bool} {w' : World} (h : SimC B src (c.setRv d v) ow' ⟨(st.scrub d).fr, (d, .row e k es deep) :: (st.scrub d).ob⟩ a w') (hd : d < a.tmps.size) :
    Sim B src (st.newRow d e k es deep) (a.put (some d) v) w' :=
  ⟨_, _, h.put hd (fun _ => by simp [RelS, RelV, RelT, Cx.setRv]) (fun h => by cases h)⟩
end
end Go.Ab
