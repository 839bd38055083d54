/-
  A call whose results lie in memory of their own; a function that ends with such results; a row renamed; nil as an empty row. Over any program. Conditions: the obligations that the abstract operations list.
-/
import Derived.Test.YtdmiboplfgmgiaaAbG
namespace Go.Ab
open Go.RowKit

/-- A leaf of a result becomes a leaf of the frame: a slice becomes a row. -/
def addLeaf (st : St) (id : Nat) (ek : Nat × Nat) : T → Option (T × St)
  | .lit v => some (.lit v, st)
  | .sl es => some (.row id, ⟨(st.scrub id).fr, (id, .row ek.1 ek.2 es true) :: (st.scrub id).ob⟩)
  | _ => none
def addLeaves (st : St) (id : Nat) : List (Nat × Nat) → List T → Option (List T × St × Nat)
  | [], [] => some ([], st, id)
  | ek :: eks, t :: ts =>
    match addLeaf st id ek t with
    | some (t', st1) =>
      match addLeaves st1 (id + 1) eks ts with
      | some (ts', st2, id') => some (t' :: ts', st2, id')
      | none => none
    | none => none
  | _, _ => none
def addV (st : St) (id : Nat) (eks : List (Nat × Nat)) : AV → Option (AV × St × Nat)
  | .one t =>
    match addLeaves st id eks [t] with
    | some ([t'], st', id') => some (.one t', st', id')
    | _ => none
  | .agg ts =>
    match addLeaves st id eks ts with
    | some (ts', st', id') => some (.agg ts', st', id')
    | none => none
def addVs (st : St) (id : Nat) : List (List (Nat × Nat)) → List AV → Option (List AV × St × Nat)
  | [], [] => some ([], st, id)
  | eks :: ekss, x :: xs =>
    match addV st id eks x with
    | some (x', st1, id1) =>
      match addVs st1 id1 ekss xs with
      | some (xs', st2, id2) => some (x' :: xs', st2, id2)
      | none => none
    | none => none
  | _, _ => none
/-- The first id for the rows of a call's results. -/
def callId (d : Nat) : Nat := 1000 + 16 * d
def callFresh (st : St) (f : FuncId) (cl : Call) (d : Nat) (args outs : List AV) (ekss : List (List (Nat × Nat))) (P : Program) : Option (St × List Prop) :=
  match getVs st cl.args.toList with
  | some (ys, os) =>
    match addVs st (callId d) ekss outs with
    | some (xs, st', _) => some (st'.put (some d) none (resSlot xs), (ys = args) :: MeetsAt P f args outs (some ekss) :: os)
    | none => none
  | none => none

section
variable {B : Nat} {src : Nat → Prop} {c : Cx} {ow : Nat → Option Nat} {st : St} {a : Act} {w : World} {P : Program} {o : Oper}

/-- Blocks that are set aside for what is still to come. -/
def resv (src : Nat → Prop) (R : List Nat) (b : Nat) : Prop := src b ∧ b ∉ R

/-- The world has grown, and the blocks R are new: they are set aside. -/
theorem SimC.reserve (h : SimC B src c ow st a w) {w' : World} (hb : Below w.heap.size w w') {R : List Nat} (hR : ∀ b ∈ R, w.heap.size ≤ b) : SimC B (resv src R) c ow st a w' ∧ ∀ o x, (o, x) ∈ st.ob → ∀ b, x.blk c o = some b → b ∉ R := by
  have hg : ∀ b, b < w.heap.size → okB src c st.ob b → okB (resv src R) c st.ob b := fun b hlt hok => ⟨⟨hok.1, fun hm => by have := hR b hm; omega⟩, hok.2⟩
  have kp : Keeps w w' (okB src c st.ob) (okB (resv src R) c st.ob) := ⟨hb.size, fun b hlt _ => hb.block b hlt, hg⟩
  refine ⟨⟨h.defers, Nat.le_trans h.base hb.size, fun s g x hm => ?_, fun o x hm => ?_, h.uniq, h.rvs⟩, fun o x hm b hbb hmR => ?_⟩
  · obtain ⟨v, hv, h1, h2⟩ := h.fr s g x hm
    exact ⟨v, hv, fun hgg => (h1 hgg).keep kp, h2⟩
  · have ho := h.ob o x hm
    cases x with
    | box cs => exact BoxOk.keep ho kp (hb.block _ (BoxOk.lt ho)) (fun _ _ h => h)
    | row e k es deep =>
      refine RowOk.keep ho kp (fun g hg' => hb.block g (ObOk.blk (x := .row e k es deep) ho hg').1) (fun _ _ h => h)
  · have := ((h.ob o x hm).blk hbb).1
    have := hR b hmR
    omega

theorem resv_nil : resv src [] = src := by funext b; simp [resv]

/-- A row in blocks that were set aside. -/
theorem SimC.addRowR {R F1 : List Nat} (h : SimC B (resv src (F1 ++ R)) c ow st a w) (hR : ∀ o x, (o, x) ∈ st.ob → ∀ b, x.blk c o = some b → b ∉ F1 ++ R) (hsrc : ∀ b, B ≤ b → src b) {d : Nat} (hf : st.free d) {v : Value} {e k : Nat} {es : List (List T)} {xs : List Value} {F : List Nat}
    (hown : w.ownsRow B e k v es.length xs) (hk0 : 0 < k) (hk : ∀ x ∈ es, x.length = k) (hrep : RepL w xs es.flatten F) (hF1 : F1 = v.ownBlock.toList ++ F) (hnd : (F1 ++ R).Nodup) (hall : ∀ b ∈ F1, B ≤ b ∧ Unf w b) :
    ∃ ow', SimC B (resv src R) (c.setRv d v) ow' ⟨st.fr, (d, .row e k es true) :: st.ob⟩ a w ∧ ∀ o x, (o, x) ∈ (d, LO.row e k es true) :: st.ob → ∀ b, x.blk (c.setRv d v) o = some b → b ∉ R := by
  obtain ⟨ad, cap, hve, _⟩ := ownsRow_len hown
  have hrvs : ∀ r, ∃ ad n k, (c.setRv d v).rv r = .slice ad n k := by
    intro r
    simp only [Cx.setRv]
    split
    · exact ⟨_, _, _, hve⟩
    · exact h.rvs r
  have h' := h.recx hf (c.but_rv d v) hrvs
  have hrv : (c.setRv d v).rv d = v := by simp [Cx.setRv]
  have hblk : ∀ o x, (o, x) ∈ st.ob → x.blk (c.setRv d v) o = x.blk c o := by
    intro o' x hm
    have hne := (hf.2 o' x hm).1
    cases x with
    | box cs => rfl
    | row e' k' es' d' => simp [LO.blk, Cx.setRv, hne]
  have hmain : ∀ o x, (o, x) ∈ st.ob → x.main (c.setRv d v) o = x.main c o := by
    intro o' x hm
    have hne := (hf.2 o' x hm).1
    cases x with
    | box cs => rfl
    | row e' k' es' d' => simp [LO.main, Cx.setRv, hne]
  have hvF : ∀ b, v.ownBlock = some b → b ∈ F1 := fun b hb => by rw [hF1]; exact List.mem_append_left _ (by rw [hb]; simp)
  have hFF : ∀ b ∈ F, b ∈ F1 := fun b hb => by rw [hF1]; exact List.mem_append_right _ hb
  obtain ⟨nd1, nd2, nd3⟩ := List.nodup_append.1 hnd
  have nd1' : (v.ownBlock.toList ++ F).Nodup := hF1 ▸ nd1
  let ow' : Nat → Option Nat := fun b => if b ∈ F1 then some d else ow b
  have hlv : ∀ b, live (c.setRv d v) ((d, .row e k es true) :: st.ob) b → live (c.setRv d v) st.ob b ∨ v.ownBlock = some b := by
    rintro b ⟨o', x, hm, hx⟩
    rcases List.mem_cons.1 hm with he | hm
    · injection he with e1 e2
      subst e1 e2
      simp only [LO.main, hrv] at hx
      exact .inr hx
    · exact .inl ⟨o', x, hm, hx⟩
  have hlvn : ∀ b, live (c.setRv d v) st.ob b → b ∉ F1 ++ R := by
    rintro b ⟨o', x, hm, hx⟩
    exact hR o' x hm b (by rw [← hblk o' x hm]; exact LO.blk_of_main hx)
  have hg : ∀ b, okB (resv src (F1 ++ R)) (c.setRv d v) st.ob b → okB (resv src R) (c.setRv d v) ((d, .row e k es true) :: st.ob) b := by
    rintro b ⟨⟨s1, s2⟩, s3⟩
    refine ⟨⟨s1, fun hm => s2 (List.mem_append_right _ hm)⟩, fun hl => ?_⟩
    rcases hlv b hl with hl | hvb
    · exact s3 hl
    · exact s2 (List.mem_append_left _ (hvF b hvb))
  have kp : Keeps w w (okB (resv src (F1 ++ R)) (c.setRv d v) st.ob) (okB (resv src R) (c.setRv d v) ((d, .row e k es true) :: st.ob)) := ⟨Nat.le_refl _, fun _ _ _ => rfl, fun b _ => hg b⟩
  refine ⟨ow', ⟨h'.defers, h'.base, fun s g x hm => ?_, fun o' x hm => ?_, fun o' x y hx hy => ?_, hrvs⟩, fun o' x hm b hbb hbR => ?_⟩
  · obtain ⟨u, hu, h1, h2⟩ := h'.fr s g x hm
    exact ⟨u, hu, fun hgg => (h1 hgg).keep kp, h2⟩
  · rcases List.mem_cons.1 hm with he | hm
    · injection he with e1 e2
      subst e1 e2
      refine ⟨hk0, hk, fun g hg' => ?_, xs, F, by rw [hrv]; exact hown, hrep, fun b hbF => ?_, fun _ => ⟨(List.nodup_append.1 nd1').2.1, fun b hbF => ?_⟩⟩
      · rw [hrv] at hg'
        simp [ow', hvF g hg']
      · refine ⟨⟨hsrc b (hall b (hFF b hbF)).1, fun hbR => nd3 b (hFF b hbF) b hbR rfl⟩, fun hl => ?_⟩
        rcases hlv b hl with hl | hvb
        · exact hlvn b hl (List.mem_append_left _ (hFF b hbF))
        · exact (List.nodup_append.1 nd1').2.2 b (by rw [hvb]; simp) b hbF rfl
      · refine ⟨(hall b (hFF b hbF)).1, by simp [ow', hFF b hbF], ?_, (hall b (hFF b hbF)).2⟩
        rw [hrv]
        intro hvb
        exact (List.nodup_append.1 nd1').2.2 b (by rw [hvb]; simp) b hbF rfl
    · have ho := h'.ob o' x hm
      have how : ∀ b, b < w.heap.size → ow b = some o' → (x.blk (c.setRv d v) o' = some b ∨ okB (resv src (F1 ++ R)) (c.setRv d v) st.ob b) → ow' b = some o' := by
        intro b _ hob hcase
        show (if b ∈ F1 then some d else ow b) = some o'
        rw [if_neg]
        · exact hob
        · intro hbF
          rcases hcase with hbb | hok
          · exact hR o' x hm b (by rw [← hblk o' x hm]; exact hbb) (List.mem_append_left _ hbF)
          · exact hok.1.2 (List.mem_append_left _ hbF)
      cases x with
      | box cs =>
        have hlt := BoxOk.lt ho
        obtain ⟨b1, b2, vs, ty, b3, b4⟩ := ho
        exact ⟨b1, how _ hlt b2 (.inl rfl), vs, ty, b3, b4.mono fun u t _ hr => hr.keep kp⟩
      | row e' k' es' d' =>
        obtain ⟨r0, r1, r2, xs', F', r3, r4, r5, r6⟩ := ho
        refine ⟨r0, r1, fun g hg' => how g (ownsRow_lt r3 hg').1 (r2 g hg') (.inl hg'), xs', F', r3, r4, fun b hb => hg b (r5 b hb), fun hd => ?_⟩
        obtain ⟨n1, n2⟩ := r6 hd
        refine ⟨n1, fun b hb => ?_⟩
        obtain ⟨m1, m2, m3, m4⟩ := n2 b hb
        exact ⟨m1, how b (r4.lt b hb) m2 (.inr (r5 b hb)), m3, m4⟩
  · rcases List.mem_cons.1 hx with he | hx1
    · injection he with e1 e2
      rcases List.mem_cons.1 hy with he' | hy1
      · injection he' with e3 e4
        rw [e2, e4]
      · exact absurd e1 (hf.2 _ _ hy1).1
    · rcases List.mem_cons.1 hy with he' | hy1
      · injection he' with e3 e4
        exact absurd e3 (hf.2 _ _ hx1).1
      · exact h.uniq o' x y hx1 hy1
  · rcases List.mem_cons.1 hm with he | hm
    · injection he with e1 e2
      subst e1 e2
      simp only [LO.blk, hrv] at hbb
      exact nd3 b (hvF b hbb) b hbR rfl
    · exact hR o' x hm b (by rw [← hblk o' x hm]; exact hbb) (List.mem_append_right _ hbR)

/-- A leaf that stands for a value: itself, or a row's handle below an id. -/
def HLeaf (c : Cx) (id : Nat) (v : Value) (t : T) : Prop := (t = .lit v ∧ plain v = true) ∨ ∃ r, t = .row r ∧ c.rv r = v ∧ r < id
theorem HLeaf.rel {ok : Nat → Prop} {id : Nat} {v : Value} {t : T} (h : HLeaf c id v t) : RelT c w ok v t := by
  rcases h with ⟨rfl, hp⟩ | ⟨r, rfl, hr, _⟩
  · exact ⟨rfl, hp⟩
  · exact hr.symm
theorem HLeaf.set {id id' d : Nat} {v u : Value} {t : T} (h : HLeaf c id v t) (hd : id ≤ d) (hi : id ≤ id') : HLeaf (c.setRv d u) id' v t := by
  rcases h with h | ⟨r, rfl, hr, hlt⟩
  · exact .inl h
  · exact .inr ⟨r, rfl, by simp only [Cx.setRv]; rw [if_neg (by omega)]; exact hr, by omega⟩

theorem addLeaves_sound (hsrc : ∀ b, B ≤ b → src b) : ∀ {eks : List (Nat × Nat)} {vs : List Value} {ts : List T} {F : List Nat} {R : List Nat} {st : St} {c : Cx} {ow : Nat → Option Nat} {id : Nat} {ts' : List T} {st' : St} {id' : Nat},
    OwnL w B eks vs ts F → addLeaves st id eks ts = some (ts', st', id') → SimC B (resv src (F ++ R)) c ow st a w → (∀ o x, (o, x) ∈ st.ob → ∀ b, x.blk c o = some b → b ∉ F ++ R) → (F ++ R).Nodup → (∀ b ∈ F, B ≤ b ∧ Unf w b) →
    ∃ c' ow', SimC B (resv src R) c' ow' st' a w ∧ (∀ o x, (o, x) ∈ st'.ob → ∀ b, x.blk c' o = some b → b ∉ R) ∧ All2 (HLeaf c' id') vs ts' ∧ id ≤ id' ∧ (∀ r, r < id → c'.rv r = c.rv r) := by
  intro eks vs ts F R st c ow id ts' st' id' hown
  induction hown generalizing R st c ow id ts' st' id' with
  | nil =>
    intro hadd h hR _ _
    injection hadd with hadd; injection hadd with e1 hadd; injection hadd with e2 e3; subst e1 e2 e3
    exact ⟨c, ow, h, hR, .nil, Nat.le_refl _, fun _ _ => rfl⟩
  | @cons ek eks v t F1 vs ts G ho hos ih =>
    intro hadd h hR hnd hall
    unfold addLeaves at hadd
    split at hadd
    · rename_i t' st1 hl
      split at hadd
      · rename_i ts'' st2 id2 hrest
        injection hadd with hadd; injection hadd with e1 hadd; injection hadd with e2 e3; subst e1 e2 e3
        cases t with
        | lit u =>
          injection hl with hl; injection hl with e1 e2; subst e1 e2
          obtain ⟨rfl, hp, rfl⟩ := ho
          obtain ⟨c', ow', q1, q2, q3, q4, q5⟩ := ih hrest h hR hnd hall
          exact ⟨c', ow', q1, q2, .cons (.inl ⟨rfl, hp⟩) q3, by omega, fun r hr => q5 r (by omega)⟩
        | sl es =>
          injection hl with hl; injection hl with e1 e2; subst e1 e2
          obtain ⟨xs, G1, k1, k2, k3, k4, k5⟩ := ho
          have h1 := h.scrub id
          have hR1 : ∀ o x, (o, x) ∈ (st.scrub id).ob → ∀ b, x.blk c o = some b → b ∉ F1 ++ (G ++ R) := by
            intro o' x hm b hb
            simp only [St.scrub, St.weak, List.mem_filterMap, Option.map_eq_some_iff] at hm
            obtain ⟨⟨o1, y⟩, hy, z, hz, he⟩ := hm
            injection he with e1 e2
            subst e1 e2
            rw [← List.append_assoc]
            refine hR o1 y hy b ?_
            cases y with
            | box cs =>
              simp only [scrubOb] at hz
              split at hz
              · cases hz
              · injection hz with hz; subst hz; exact hb
            | row e' k' es' d' =>
              simp only [scrubOb] at hz
              split at hz
              · cases hz
              · injection hz with hz; subst hz; exact hb
          rw [List.append_assoc] at h1 hnd
          obtain ⟨ow1, q1, q2⟩ := h1.addRowR hR1 hsrc (free_scrub st id) k3 k1 k2 k4 k5 hnd (fun b hb => hall b (List.mem_append_left _ hb))
          obtain ⟨c', ow', p1, p2, p3, p4, p5⟩ := ih hrest q1 q2 (List.nodup_append.1 hnd).2.1 (fun b hb => hall b (List.mem_append_right _ hb))
          refine ⟨c', ow', p1, p2, .cons (.inr ⟨id, rfl, ?_, by omega⟩) p3, by omega, fun r hr => ?_⟩
          · rw [p5 id (by omega)]; simp [Cx.setRv]
          · rw [p5 r (by omega)]
            simp only [Cx.setRv]
            rw [if_neg (by omega)]
        | nil => cases hl
        | row _ => cases hl
        | ptr _ _ => cases hl
        | ep _ _ => cases hl
        | rp _ _ _ _ => cases hl
        | any => cases hl
      · cases hadd
    · cases hadd

def HVal (c : Cx) (id : Nat) (v : Value) : AV → Prop
  | .one t => HLeaf c id v t
  | .agg ts => ∃ vs : List Value, v = .agg vs.toArray ∧ All2 (HLeaf c id) vs ts
theorem HVal.rel {ok : Nat → Prop} {id : Nat} {v : Value} {x : AV} (h : HVal c id v x) : RelV c w ok v x := by
  cases x with
  | one t => exact HLeaf.rel h
  | agg ts => obtain ⟨vs, rfl, ha⟩ := h; exact ⟨vs, rfl, ha.mono fun _ _ _ hr => hr.rel⟩
theorem HLeaf.agree {c' : Cx} {id id' : Nat} {v : Value} {t : T} (h : HLeaf c id v t) (hc : ∀ r, r < id → c'.rv r = c.rv r) (hi : id ≤ id') : HLeaf c' id' v t := by
  rcases h with h | ⟨r, rfl, hr, hlt⟩
  · exact .inl h
  · exact .inr ⟨r, rfl, by rw [hc r hlt]; exact hr, by omega⟩
theorem HVal.agree {c' : Cx} {id id' : Nat} {v : Value} {x : AV} (h : HVal c id v x) (hc : ∀ r, r < id → c'.rv r = c.rv r) (hi : id ≤ id') : HVal c' id' v x := by
  cases x with
  | one t => exact HLeaf.agree h hc hi
  | agg ts => obtain ⟨vs, rfl, ha⟩ := h; exact ⟨vs, rfl, ha.mono fun _ _ _ hr => hr.agree hc hi⟩

theorem addVs_sound (hsrc : ∀ b, B ≤ b → src b) : ∀ {ekss : List (List (Nat × Nat))} {vs : List Value} {xs : List AV} {F : List Nat} {R : List Nat} {st : St} {c : Cx} {ow : Nat → Option Nat} {id : Nat} {xs' : List AV} {st' : St} {id' : Nat},
    OwnVs w B ekss vs xs F → addVs st id ekss xs = some (xs', st', id') → SimC B (resv src (F ++ R)) c ow st a w → (∀ o x, (o, x) ∈ st.ob → ∀ b, x.blk c o = some b → b ∉ F ++ R) → (F ++ R).Nodup → (∀ b ∈ F, B ≤ b ∧ Unf w b) →
    ∃ c' ow', SimC B (resv src R) c' ow' st' a w ∧ (∀ o x, (o, x) ∈ st'.ob → ∀ b, x.blk c' o = some b → b ∉ R) ∧ All2 (HVal c' id') vs xs' ∧ id ≤ id' ∧ (∀ r, r < id → c'.rv r = c.rv r) := by
  intro ekss vs xs F R st c ow id xs' st' id' hown
  induction hown generalizing R st c ow id xs' st' id' with
  | nil =>
    intro hadd h hR _ _
    injection hadd with hadd; injection hadd with e1 hadd; injection hadd with e2 e3; subst e1 e2 e3
    exact ⟨c, ow, h, hR, .nil, Nat.le_refl _, fun _ _ => rfl⟩
  | @cons eks ekss v x F1 vs xs G ho hos ih =>
    intro hadd h hR hnd hall
    unfold addVs at hadd
    split at hadd
    · rename_i x' st1 id1 hl
      split at hadd
      · rename_i xs'' st2 id2 hrest
        injection hadd with hadd; injection hadd with e1 hadd; injection hadd with e2 e3; subst e1 e2 e3
        rw [List.append_assoc] at h hnd
        have hR1 : ∀ o x, (o, x) ∈ st.ob → ∀ b, x.blk c o = some b → b ∉ F1 ++ (G ++ R) := fun o' y hm b hb => by rw [← List.append_assoc]; exact hR o' y hm b hb
        have key : ∃ c' ow', SimC B (resv src (G ++ R)) c' ow' st1 a w ∧ (∀ o x, (o, x) ∈ st1.ob → ∀ b, x.blk c' o = some b → b ∉ G ++ R) ∧ HVal c' id1 v x' ∧ id ≤ id1 ∧ (∀ r, r < id → c'.rv r = c.rv r) := by
          cases x with
          | one t =>
            obtain ⟨ek, rfl, hot⟩ := ho
            simp only [addV] at hl
            split at hl
            · rename_i t' st'' id'' hadd1
              injection hl with hl; injection hl with e1 hl; injection hl with e2 e3; subst e1 e2 e3
              have hO : OwnL w B [ek] [v] [t] (F1 ++ []) := .cons hot .nil
              rw [List.append_nil] at hO
              obtain ⟨c', ow', p1, p2, p3, p4, p5⟩ := addLeaves_sound hsrc hO hadd1 h hR1 hnd (fun b hb => hall b (List.mem_append_left _ hb))
              cases p3 with
              | cons p3 _ => exact ⟨c', ow', p1, p2, p3, p4, p5⟩
            · cases hl
          | agg ts =>
            obtain ⟨us, rfl, hot⟩ := ho
            simp only [addV] at hl
            split at hl
            · rename_i ts' st'' id'' hadd1
              injection hl with hl; injection hl with e1 hl; injection hl with e2 e3; subst e1 e2 e3
              obtain ⟨c', ow', p1, p2, p3, p4, p5⟩ := addLeaves_sound hsrc hot hadd1 h hR1 hnd (fun b hb => hall b (List.mem_append_left _ hb))
              exact ⟨c', ow', p1, p2, ⟨us, rfl, p3⟩, p4, p5⟩
            · cases hl
        obtain ⟨c1, ow1, k1, k2, k3, k4, k5⟩ := key
        obtain ⟨c', ow', p1, p2, p3, p4, p5⟩ := ih hrest k1 k2 (List.nodup_append.1 hnd).2.1 (fun b hb => hall b (List.mem_append_right _ hb))
        exact ⟨c', ow', p1, p2, .cons (k3.agree p5 p4) p3, by omega, fun r hr => by rw [p5 r (by omega)]; exact k5 r hr⟩
      · cases hadd
    · cases hadd

theorem OwnT.mono {B' : Nat} {ek : Nat × Nat} {v : Value} {t : T} {F : List Nat} (h : OwnT w B' ek v t F) (hB : B ≤ B') : OwnT w B ek v t F := by
  cases t with
  | lit u => exact h
  | sl es =>
    obtain ⟨xs, G, k1, k2, ⟨k3, k4⟩, k5, k6⟩ := h
    refine ⟨xs, G, k1, k2, ⟨k3, ?_⟩, k5, k6⟩
    rcases k4 with k4 | ⟨g, cap, cur, m1, m2, m3⟩
    · exact .inl k4
    · exact .inr ⟨g, cap, cur, m1, Nat.le_trans hB m2, m3⟩
  | nil => exact h
  | row _ => exact h
  | ptr _ _ => exact h
  | ep _ _ => exact h
  | rp _ _ _ _ => exact h
  | any => exact h
theorem OwnL.mono {B' : Nat} {eks : List (Nat × Nat)} {vs : List Value} {ts : List T} {F : List Nat} (h : OwnL w B' eks vs ts F) (hB : B ≤ B') : OwnL w B eks vs ts F := by
  induction h with
  | nil => exact .nil
  | cons h hs ih => exact .cons (OwnT.mono h hB) ih
theorem OwnVs.mono {B' : Nat} {ekss : List (List (Nat × Nat))} {vs : List Value} {xs : List AV} {F : List Nat} (h : OwnVs w B' ekss vs xs F) (hB : B ≤ B') : OwnVs w B ekss vs xs F := by
  induction h with
  | nil => exact .nil
  | @cons eks ekss v x F vs xs G h hs ih =>
    refine .cons ?_ ih
    cases x with
    | one t => obtain ⟨ek, rfl, ho⟩ := h; exact ⟨ek, rfl, OwnT.mono ho hB⟩
    | agg ts => obtain ⟨us, rfl, ho⟩ := h; exact ⟨us, rfl, ho.mono hB⟩

theorem callFresh_sound (h : SimC B src c ow st a w) (hsrc : ∀ b, B ≤ b → src b) {cl : Call} {f : FuncId} {d : Nat} (hdst : o.dst = some d) (hd : d < a.tmps.size) {args outs : List AV} {ekss : List (List (Nat × Nat))} {st' : St} {obs : List Prop} (hop : o.op = .call cl) (hf : cl.callee = .value (.func f))
    (hv : callFresh st f cl d args outs ekss P = some (st', obs)) (ho : Ob obs) {K : Act → World → Prop} {Q : Exit → Act → World → Prop} (hK : ∀ v w', Sim B src st' (a.put (some d) v) w' → Below w.heap.size w w' → K (a.put (some d) v) w') : o.wp P a w K Q := by
  unfold callFresh at hv
  split at hv
  · rename_i ys os hg
    split at hv
    · rename_i xs st1 id1 hadd
      injection hv with hv
      injection hv with e1 e2
      subst e1 e2
      obtain ⟨p1, ⟨p2, p3⟩, p4⟩ := ho
      subst p1
      obtain ⟨F, g1, _⟩ := getVs_sound h hg p4
      have hc := p3 w _ F g1
      unfold Oper.wp
      rw [exec_call hop hf p2 w]
      simp only [Oper.upon]
      have hargs : cl.args.map a.eval = (cl.args.toList.map a.eval).toArray := by rw [← Array.toList_map, Array.toArray_toList]
      rw [hargs]
      refine hc.mono fun e w' he => ?_
      obtain ⟨v, us, G, rfl, hres, hb, hown, hnd, hall⟩ := he
      obtain ⟨q1, q2⟩ := h.reserve hb (R := G) (fun b hb => (hall b hb).1)
      have hG : G ++ [] = G := List.append_nil G
      rw [← hG] at q1 q2 hnd
      obtain ⟨c', ow', r1, r2, r3, _, _⟩ := addVs_sound hsrc (hown.mono h.base) hadd q1 q2 hnd (fun b hb => ⟨Nat.le_trans h.base (hall b hb).1, (hall b hb).2⟩)
      rw [resv_nil] at r1
      simp only [hdst]
      refine hK v w' ⟨c', ow', r1.put hd (fun _ => RelS_of_all hres (r3.mono fun _ _ _ hr => hr.rel)) (fun h => by cases h)⟩ hb
    · cases hv
  · cases hv
end
end Go.Ab
