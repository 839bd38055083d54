/-
  append on abstract frames. Over any program. Conditions: the obligations that the abstract operation lists.
-/
import Derived.Test.YtdmiboplfgmgiaaAbF
namespace Go.Ab
open Go.RowKit

section
variable {B : Nat} {src : Nat → Prop} {c : Cx} {ow : Nat → Option Nat} {st : St} {a : Act} {w : World} {P : Program} {o : Oper}

theorem run_app_nil {t ty e : TypeId} {i : TypeInfo} {k n : Nat} (ht : P.underlying t = some (.slice e)) (hi : P.info? e = some i) {v : Value} {xs : List Value} (hown : w.ownsRow B e k v n xs) (c : Nat) : (Builtin.append_ #[t, t] ty #[v, .slice none 0 c]).run P w = .ok v w := by
  rcases hown.2 with ⟨rfl, rfl⟩ | ⟨g, cap, cur, rfl, _, _, hnc, _⟩
  · simp [Builtin.append_, run_underlying ht, sizeOf, typeInfo, hi, Builtin.lenOf, Builtin.firstCells]
  · simp [Builtin.append_, run_underlying ht, sizeOf, typeInfo, hi, Builtin.lenOf, Builtin.firstCells, hnc, storeCells]

theorem rep_one {v : Value} {t : T} {F : List Nat} (h : Rep w v t F) : v.oneCell' = true := by
  cases h with
  | lit hp => cases v <;> simp [plain] at hp <;> rfl
  | nil hc => rfl
  | cons hn h0 hk0 hk hc hm hx hcell hr => rfl
theorem repL_one {vs : List Value} {ts : List T} {F : List Nat} (h : RepL w vs ts F) : ∀ u ∈ vs, u.oneCell' = true := by
  induction vs generalizing ts F with
  | nil => simp
  | cons v vs ih =>
    cases h with
    | cons h hs =>
      intro u hu
      rcases List.mem_cons.1 hu with rfl | hu
      · exact rep_one h
      · exact ih hs u hu

/-- The model's append onto a row of the call's own (or nil), from data. -/
theorem run_app {t ty e : TypeId} {i : TypeInfo} {z : Value} {n : Nat} (ht : P.underlying t = some (.slice e)) (hi : P.info? e = some i) (hz : i.zero = some z) (hzs : z.cells.size = i.size) (h0 : 0 < i.size) {v u : Value} {xs : List Value} {es : List (List T)} {F : List Nat}
    (hown : w.ownsRow B e i.size v n xs) (hu : Rep w u (.sl es) F) (hk : ∀ x ∈ es, x.length = i.size) (hle : (n + es.length) * (i.bytes + 1) ≤ 140737488355328) (hB : B ≤ w.heap.size) :
    ∃ v' w' news G, (Builtin.append_ #[t, t] ty #[v, u]).run P w = .ok v' w' ∧ w'.ownsRow B e i.size v' (n + es.length) (xs ++ news) ∧ w.grownBy w' v.ownBlock ∧ (v'.ownBlock = v.ownBlock ∨ v'.ownBlock = some w.heap.size) ∧ RepL w news es.flatten G ∧ (∀ b ∈ G, b ∈ F) ∧ (F.Nodup → G.Nodup) := by
  have hle1 : (n + es.length) * i.bytes ≤ 140737488355328 := Nat.le_trans (Nat.mul_le_mul_left _ (Nat.le_succ _)) hle
  have hle2 : n + es.length ≤ maxLen := by
    have : n + es.length ≤ (n + es.length) * (i.bytes + 1) := Nat.le_mul_of_pos_right _ (Nat.succ_pos _)
    simp only [maxLen]
    omega
  cases hu with
  | @nil A cc hc =>
    cases A with
    | none => exact ⟨v, w, [], [], run_app_nil ht hi hown cc, by simpa using hown, World.grownBy.refl w _, .inl rfl, by simpa using .nil, by simp, fun _ => List.nodup_nil⟩
    | some ad =>
      obtain ⟨v', w', g1, g2, g3, _, g5⟩ := run_append_own_at (P := P) w B t ty e i z i.size i.bytes ht hi hz rfl rfl hzs h0 v n xs hown ad 0 cc [] (by simp) (by simp) (by simp) (by simpa using hle2) (by simpa using hle1) hB
      exact ⟨v', w', [], [], g1, g2, g3, g5, by simpa using .nil, by simp, fun _ => List.nodup_nil⟩
  | @cons b off m cc k es news F hn hp hk0 hk' hc hm hx hcell hr =>
    subst hn
    have hkk : k = i.size := by
      obtain ⟨x, hx⟩ := List.exists_mem_of_length_pos hp
      rw [← hk' x hx, hk x hx]
    subst hkk
    obtain ⟨v', w', g1, g2, g3, _, g5⟩ := run_append_own_at (P := P) w B t ty e i z i.size i.bytes ht hi hz rfl rfl hzs h0 v n xs hown ⟨b, off, none⟩ es.length cc news hx (fun j u hu => by rw [add_eq]; exact hcell j u hu) (repL_one hr) hle2 hle1 hB
    exact ⟨v', w', news, F, g1, g2, g3, g5, hr, fun b hb => List.mem_cons_of_mem _ hb, fun h => (List.nodup_cons.1 h).2⟩

/-- A row is taken over by a new one, which holds what it held and more. -/
theorem SimC.replRow (h : SimC B src c ow st a w) {w' : World} {d r : Nat} (hf : st.free d) {e k : Nat} {es : List (List T)} {deep : Bool} (hr : (r, .row e k es deep) ∈ st.ob) {v' : Value} {es' : List (List T)} {F' : List Nat} {dp : Bool} {xs' : List Value}
    (hs : w.heap.size ≤ w'.heap.size) (hb : ∀ b, b < w.heap.size → some b ≠ (c.rv r).ownBlock → w'.heap[b]? = w.heap[b]?) (hv : v'.ownBlock = (c.rv r).ownBlock ∨ v'.ownBlock = some w.heap.size) (hown : w'.ownsRow B e k v' es'.length xs') (hk0 : 0 < k) (hk : ∀ x ∈ es', x.length = k)
    (hrep : RepL w' xs' es'.flatten F') (hF : ∀ b ∈ F', b < w.heap.size ∧ okB src c st.ob b) (hdeep : dp = true → F'.Nodup ∧ ∀ b ∈ F', B ≤ b ∧ Unf w' b ∧ ∃ r', ow b = some r' ∧ (r' = r ∨ ∀ x, (r', x) ∉ st.ob)) :
    ∃ ow', SimC B src (c.setRv d v') ow' ⟨st.fr, (d, .row e k es' dp) :: st.ob.filter fun x => x.1 != r⟩ a w' := by
  obtain ⟨ad, cap, hve, _⟩ := ownsRow_len hown
  have hdr : r ≠ d := (hf.2 _ _ hr).1
  have hrvs : ∀ q, ∃ ad n k, (c.setRv d v').rv q = .slice ad n k := by
    intro q
    simp only [Cx.setRv]
    split
    · exact ⟨_, _, _, hve⟩
    · exact h.rvs q
  have h' := h.recx hf (c.but_rv d v') hrvs
  have hrv : (c.setRv d v').rv d = v' := by simp [Cx.setRv]
  have hrvr : (c.setRv d v').rv r = c.rv r := by simp [Cx.setRv, hdr]
  have hokeq : okB src (c.setRv d v') st.ob = okB src c st.ob := okB_but (fun o' x hm => (hf.2 o' x hm).1) (c.but_rv d v')
  have hgr : ∀ b, (c.rv r).ownBlock = some b → live (c.setRv d v') st.ob b ∧ ow b = some r ∧ b < w.heap.size := by
    intro b hbb
    refine ⟨⟨r, _, hr, by simp only [LO.main, hrvr]; exact hbb⟩, ?_, ?_⟩
    · obtain ⟨_, _, r2, _⟩ := h.ob _ _ hr; exact r2 b hbb
    · obtain ⟨_, _, _, xs, F, r3, _⟩ := h.ob _ _ hr; exact (ownsRow_lt r3 hbb).1
  let ow' : Nat → Option Nat := fun b => if v'.ownBlock = some b ∨ (dp = true ∧ b ∈ F') then some d else ow b
  have hlv : ∀ b, b < w.heap.size → live (c.setRv d v') ((d, .row e k es' dp) :: st.ob.filter fun x => x.1 != r) b → live (c.setRv d v') st.ob b := by
    rintro b hlt ⟨o', x, hm, hx⟩
    rcases List.mem_cons.1 hm with he | hm
    · injection he with e1 e2
      subst e1 e2
      simp only [LO.main, hrv] at hx
      rcases hv with hv | hv
      · rw [hv] at hx; exact (hgr b hx).1
      · rw [hv] at hx; injection hx with hx; omega
    · exact ⟨o', x, (List.mem_filter.1 hm).1, hx⟩
  refine ⟨ow', h'.step (ow' := ow') hs (fun b hlt hnl => hb b hlt fun e => hnl (hgr b e.symm).1) hlv (fun o' x hm => ?_) (fun o' x y hx hy => ?_)⟩
  · rcases List.mem_cons.1 hm with he | hm
    · injection he with e1 e2
      subst e1 e2
      refine .inr ⟨hk0, hk, fun g hg => ?_, xs', F', by rw [hrv]; exact hown, hrep, fun b hbF => ?_, fun hd => ?_⟩
      · rw [hrv] at hg; simp [ow', hg]
      · obtain ⟨hlt, hok⟩ := hF b hbF
        rw [← hokeq] at hok
        exact ⟨hok.1, fun hl => hok.2 (hlv b hlt hl)⟩
      · obtain ⟨hnd, hall⟩ := hdeep hd
        refine ⟨hnd, fun b hbF => ?_⟩
        obtain ⟨q1, q2, _⟩ := hall b hbF
        refine ⟨q1, by simp [ow', hd, hbF], ?_, q2⟩
        rw [hrv]
        intro hvb
        obtain ⟨hlt, hok⟩ := hF b hbF
        rcases hv with hv | hv
        · rw [hv] at hvb
          rw [← hokeq] at hok
          exact hok.2 (hgr b hvb).1
        · rw [hv] at hvb; injection hvb with hvb; omega
    · obtain ⟨hm1, hm2⟩ := List.mem_filter.1 hm
      have hne : o' ≠ r := by simpa using hm2
      refine .inl ⟨hm1, fun b hbb => ?_, fun b hlt how => ?_⟩
      · have hlt := ((h'.ob o' x hm1).blk hbb).1
        refine hb b hlt fun e => hne ?_
        have h1 := ((h'.ob o' x hm1).blk hbb).2
        rw [(hgr b e.symm).2.1] at h1
        injection h1 with h1
        exact h1.symm
      · show (if v'.ownBlock = some b ∨ (dp = true ∧ b ∈ F') then some d else ow b) = some o'
        rw [if_neg]
        · exact how
        · rintro (hvb | ⟨hd, hbF⟩)
          · rcases hv with hv | hv
            · rw [hv] at hvb
              rw [(hgr b hvb).2.1] at how
              injection how with how
              exact hne how.symm
            · rw [hv] at hvb; injection hvb with hvb; omega
          · obtain ⟨_, hall⟩ := hdeep hd
            obtain ⟨_, _, r', hr1, hr2⟩ := hall b hbF
            rw [hr1] at how
            injection how with how
            subst how
            rcases hr2 with hr2 | hr2
            · exact hne hr2
            · exact hr2 x hm1
  · rcases List.mem_cons.1 hx with he | hx1
    · injection he with e1 e2
      rcases List.mem_cons.1 hy with he' | hy1
      · injection he' with e3 e4
        rw [e2, e4]
      · exact absurd e1 (hf.2 _ _ (List.mem_filter.1 hy1).1).1
    · rcases List.mem_cons.1 hy with he' | hy1
      · injection he' with e3 e4
        exact absurd e3 (hf.2 _ _ (List.mem_filter.1 hx1).1).1
      · exact h.uniq o' x y (List.mem_filter.1 hx1).1 (List.mem_filter.1 hy1).1

/-! ### the abstract append -/
/-- The source: its elements, the rows that it takes up, whether its elements' memory is its own. -/
def appSrc (h : Option Hint) (st : St) (k : Nat) (t : T) : Option (List (List T) × List Nat × Bool × List Prop) :=
  match t with
  | .nil => some ([], [], true, [])
  | .sl es =>
    match h with
    | some .mv => some (es, [], true, [∀ x ∈ es, x.length = k ∧ x.any T.isSl = false])
    | _ => some (es, [], false, [∀ x ∈ es, x.length = k])
  | .row r =>
    match st.row r with
    | some (_, k', es, deep) => if k' = k then some (es, [r], deep, []) else none
    | none => none
  | _ => none
def St.tookRow (st : St) (d r e k : Nat) (es : List (List T)) (dp : Bool) : St :=
  let s := st.scrub d
  (⟨s.fr, (d, .row e k es dp) :: s.ob.filter fun x => x.1 != r⟩ : St).put (some d) none (.val (.one (.row d)))
def mApp (P : Program) (h : Option Hint) (st : St) (d : Nat) (t : TypeId) (s x : Operand) : Option (St × List Prop) :=
  match P.underlying t with
  | some (.slice e) =>
    match P.info? e with
    | some i =>
      match i.zero with
      | some z =>
        if z.cells.size = i.size ∧ 0 < i.size then
          match st.getT s, st.getT x with
          | some (ts, os), some (tx, ox) =>
            match appSrc h st i.size tx with
            | some (es2, ids, dp, o2) =>
              match ts with
              | .nil => some ((st.freezeAll ids).newRow d e i.size es2 dp, ((0 + es2.length) * (i.bytes + 1) ≤ 140737488355328) :: (os ++ (ox ++ o2)))
              | .row r =>
                match st.row r with
                | some (e1, k1, es1, deep1) =>
                  if e1 = e ∧ k1 = i.size ∧ r ≠ d ∧ ids.contains r = false then
                    some ((st.freezeAll ids).tookRow d r e i.size (es1 ++ es2) (deep1 && dp), ((es1.length + es2.length) * (i.bytes + 1) ≤ 140737488355328) :: (os ++ (ox ++ o2)))
                  else none
                | none => none
              | _ => none
            | none => none
          | _, _ => none
        else none
      | none => none
    | none => none
  | _ => none

theorem RepL_noSl {es : List (List T)} (h : ∀ x ∈ es, x.any T.isSl = false) : es.flatten.any T.isSl = false := by
  rw [List.any_eq_false]
  intro t ht
  obtain ⟨x, hx, hm⟩ := List.mem_flatten.1 ht
  have := List.any_eq_false.1 (h x hx) t hm
  exact this

theorem appSrc_sound (h : SimC B src c ow st a w) {hn : Option Hint} {k : Nat} {t : T} {u : Value} {es : List (List T)} {ids : List Nat} {dp : Bool} {os : List Prop} (hs : appSrc hn st k t = some (es, ids, dp, os)) (ho : Ob os) (hv : RelT c w (okB src c st.ob) u t) :
    ∃ F, Rep w u (.sl es) F ∧ (∀ x ∈ es, x.length = k) ∧ (∀ r ∈ ids, ∃ e k es deep, (r, LO.row e k es deep) ∈ st.ob) ∧ ids.Nodup ∧ (Taken B c ow w (okB src c st.ob) ids dp F ∨ (es.flatten.any T.isSl = false ∧ Taken B c ow w (okB src c st.ob) ids false F)) := by
  unfold appSrc at hs
  split at hs
  · injection hs with hs; injection hs with e1 hs; injection hs with e2 hs; injection hs with e3 e4; subst e1 e2 e3 e4
    have : u = .slice none 0 0 := hv
    subst this
    exact ⟨[], .nil (Nat.zero_le _), by simp, by simp, List.nodup_nil, .inl ⟨by simp, fun _ => by simp⟩⟩
  · rename_i es'
    split at hs
    · injection hs with hs; injection hs with e1 hs; injection hs with e2 hs; injection hs with e3 e4; subst e1 e2 e3 e4
      obtain ⟨F, hr, hF⟩ := hv
      exact ⟨F, hr, fun x hx => (ho.1 x hx).1, by simp, List.nodup_nil, .inr ⟨RepL_noSl fun x hx => (ho.1 x hx).2, fun b hb => .inl (hF b hb), fun h => by cases h⟩⟩
    · injection hs with hs; injection hs with e1 hs; injection hs with e2 hs; injection hs with e3 e4; subst e1 e2 e3 e4
      obtain ⟨F, hr, hF⟩ := hv
      exact ⟨F, hr, ho.1, by simp, List.nodup_nil, .inl ⟨fun b hb => .inl (hF b hb), fun h => by cases h⟩⟩
  · rename_i r
    split at hs
    · rename_i e' k' es' deep hrow
      split at hs
      · rename_i hk
        injection hs with hs; injection hs with e1 hs; injection hs with e2 hs; injection hs with e3 e4; subst e1 e2 e3 e4 hk
        have hm : mvT st (.row r) = some (.sl es', [r], deep) := by simp [mvT, hrow]
        obtain ⟨F, f1, f2⟩ := mvT_sound h hm hv
        obtain ⟨_, r1, _⟩ := h.ob _ _ (row_mem hrow)
        exact ⟨F, f1, r1, mvT_ids hm, by simp, .inl f2⟩
      · cases hs
    · cases hs
  · cases hs

theorem mem_freezeAll_row {ids : List Nat} {r e k : Nat} {es : List (List T)} {deep : Bool} (hr : ids.contains r = false) (hm : (r, LO.row e k es deep) ∈ st.ob) : (r, LO.row e k es deep) ∈ (st.freezeAll ids).ob := by
  induction ids generalizing st with
  | nil => exact hm
  | cons i is ih =>
    simp only [List.contains_cons, Bool.or_eq_false_iff] at hr
    refine ih (st := frzRow st i) hr.2 ?_
    unfold frzRow
    split
    · rename_i e1 k1 es1 d1 hrow
      simp only [St.freeze, List.mem_map, List.mem_filter]
      exact ⟨(r, .row e k es deep), ⟨hm, by simpa using hr.1⟩, rfl⟩
    · exact hm
theorem mem_scrub_row {d r e k : Nat} {es : List (List T)} {deep : Bool} (hne : r ≠ d) (hm : (r, LO.row e k es deep) ∈ st.ob) : (r, LO.row e k es deep) ∈ (st.scrub d).ob := by
  simp only [St.scrub, St.weak, List.mem_filterMap, Option.map_eq_some_iff]
  exact ⟨(r, .row e k es deep), hm, .row e k es deep, by simp [scrubOb, hne], rfl⟩
theorem mem_scrub {d o' : Nat} {x : LO} (hm : (o', x) ∈ (st.scrub d).ob) : ∃ y, (o', y) ∈ st.ob := by
  simp only [St.scrub, St.weak, List.mem_filterMap, Option.map_eq_some_iff] at hm
  obtain ⟨⟨o1, y⟩, hy, z, hz, he⟩ := hm
  injection he with e1 e2
  subst e1
  exact ⟨y, hy⟩

theorem taken_part (h : SimC B src c ow st a w) (hsrc : ∀ b, B ≤ b → src b) {ids : List Nat} {dp : Bool} {F G : List Nat} {es : List (List T)} {news : List Value} (hids : ∀ r ∈ ids, ∃ e k es deep, (r, LO.row e k es deep) ∈ st.ob)
    (ht : Taken B c ow w (okB src c st.ob) ids dp F ∨ (es.flatten.any T.isSl = false ∧ Taken B c ow w (okB src c st.ob) ids false F)) (hr : RepL w news es.flatten G) (hsub : ∀ b ∈ G, b ∈ F) (hnd : F.Nodup → G.Nodup) :
    (∀ b ∈ G, okB src c (st.freezeAll ids).ob b) ∧ (dp = true → G.Nodup ∧ ∀ b ∈ G, B ≤ b ∧ Unf w b ∧ ∃ r, ow b = some r ∧ ∀ x, (r, x) ∉ (st.freezeAll ids).ob) := by
  rcases ht with ht | ⟨hno, ht⟩
  · obtain ⟨t1, t2⟩ := ht.frozen h hsrc (fun r hr => hr) hids
    refine ⟨fun b hb => t1 b (hsub b hb), fun hd => ?_⟩
    obtain ⟨n1, n2⟩ := t2 hd
    exact ⟨hnd n1, fun b hb => n2 b (hsub b hb)⟩
  · rw [hr.noSl hno]
    exact ⟨by simp, fun _ => by simp⟩

theorem app_sound (h : SimC B src c ow st a w) (hsrc : ∀ b, B ≤ b → src b) {d : Nat} (hdst : o.dst = some d) (hd : d < a.tmps.size) {hn : Option Hint} {t : TypeId} {s x : Operand} {st' : St} {obs : List Prop} (hop : o.op = .call { callee := .builtin .append, args := #[s, x], argTypes := #[t, t] })
    (hv : mApp P hn st d t s x = some (st', obs)) (ho : Ob obs) {K : Act → World → Prop} {Q : Exit → Act → World → Prop} (hK : ∀ v w', Sim B src st' (a.put (some d) v) w' → Below B w w' → K (a.put (some d) v) w') : o.wp P a w K Q := by
  unfold mApp at hv
  split at hv
  · rename_i e ht
    split at hv
    · rename_i i hi
      split at hv
      · rename_i z hz
        split at hv
        · rename_i hcond
          obtain ⟨c1, c2⟩ := hcond
          split at hv
          · rename_i ts os tx ox hs hx
            split at hv
            · rename_i es2 ids dp o2 hsr
              have hexec : ∀ (v u v' : Value) (w' : World), a.eval s = v → a.eval x = u → (∀ ty, (Builtin.append_ #[t, t] ty #[v, u]).run P w = .ok v' w') → (execOp a.eval o).run P w = .ok (.value v') w' := by
                intro v u v' w' hv1 hu1 hr
                simp [execOp, hop, resolve, invoke, builtin, hv1, hu1, hr]
              split at hv
              · injection hv with hv
                injection hv with e1 e2
                subst e1 e2
                obtain ⟨p1, p2⟩ := ho
                obtain ⟨p2, p3⟩ := Ob_append p2
                obtain ⟨p3, p4⟩ := Ob_append p3
                have hvs : a.eval s = .slice none 0 0 := h.getT hs p2
                obtain ⟨F, f1, f2, f3, f4, f5⟩ := appSrc_sound h hsr p4 (h.getT hx p3)
                have hown : w.ownsRow B e i.size (.slice none 0 0) 0 [] := ⟨by simp, .inl ⟨rfl, rfl⟩⟩
                have hall : ∀ ty, ∃ v' w' news G, (Builtin.append_ #[t, t] ty #[.slice none 0 0, a.eval x]).run P w = .ok v' w' ∧ w'.ownsRow B e i.size v' (0 + es2.length) ([] ++ news) ∧ w.grownBy w' (Value.slice none 0 0).ownBlock ∧ (v'.ownBlock = (Value.slice none 0 0).ownBlock ∨ v'.ownBlock = some w.heap.size) ∧ RepL w news es2.flatten G ∧ (∀ b ∈ G, b ∈ F) ∧ (F.Nodup → G.Nodup) :=
                  fun ty => run_app ht hi hz c1 c2 hown f1 f2 p1 h.base
                obtain ⟨v', w', news, G, g1, g2, g3, g4, g5, g6, g7⟩ := hall 0
                have hsame : ∀ ty, (Builtin.append_ #[t, t] ty #[.slice none 0 0, a.eval x]).run P w = .ok v' w' := fun ty => g1
                have hG := taken_part h hsrc f3 f5 g5 g6 g7
                have h1 := (h.freezeAll hsrc ids).scrub d
                have hbk : ∀ b, b < w.heap.size → w'.heap[b]? = w.heap[b]? := fun b hlt => g3.block b hlt (by simp [Value.ownBlock])
                rw [Nat.zero_add, List.nil_append] at g2
                obtain ⟨ow', h2⟩ := h1.addRow hsrc (free_scrub _ d) g3.size hbk (deep := dp) g2 c2 f2 (fun g hg => by
                    rcases g4 with g4 | g4
                    · rw [g4] at hg; cases hg
                    · rw [g4] at hg; injection hg with hg; omega)
                  (g5.frame fun b hb => hbk b (g5.lt b hb)) (fun b hb => .inl ⟨g5.lt b hb, (hG.1 b hb).1, fun hl => (hG.1 b hb).2 (live_scrub hl)⟩) (fun hdp => by
                    obtain ⟨n1, n2⟩ := hG.2 hdp
                    refine ⟨n1, fun b hb => ?_⟩
                    obtain ⟨m1, m2, r, m3, m4⟩ := n2 b hb
                    exact ⟨m1, m2.keep (hbk b (g5.lt b hb)), fun _ => ⟨r, m3, fun x hx => by obtain ⟨y, hy⟩ := mem_scrub hx; exact m4 y hy⟩⟩)
                unfold Oper.wp
                rw [hexec _ _ v' w' hvs rfl hsame]
                simp only [Oper.upon, hdst]
                exact hK _ _ (newRow_put h2 hd) ⟨g3.os, g3.tape, g3.output, g3.size, fun k hk => hbk k (Nat.lt_of_lt_of_le hk h.base)⟩
              · rename_i r
                split at hv
                · rename_i e1 k1 es1 deep1 hrow
                  split at hv
                  · rename_i hc2
                    obtain ⟨rfl, rfl, hrd, hrids⟩ := hc2
                    injection hv with hv
                    injection hv with e1 e2
                    subst e1 e2
                    obtain ⟨p1, p2⟩ := ho
                    obtain ⟨p2, p3⟩ := Ob_append p2
                    obtain ⟨p3, p4⟩ := Ob_append p3
                    have hvs : a.eval s = c.rv r := h.getT hs p2
                    obtain ⟨F, f1, f2, f3, f4, f5⟩ := appSrc_sound h hsr p4 (h.getT hx p3)
                    have hm1 := mem_freezeAll_row hrids (row_mem hrow)
                    have h0 := h.freezeAll hsrc ids
                    obtain ⟨r0, r1, r2, xs, F1, r3, r4, r5, r6⟩ := h0.ob _ _ hm1
                    obtain ⟨v', w', news, G, g1, g2, g3, g4, g5, g6, g7⟩ := run_app (P := P) (ty := 0) ht hi hz c1 c2 r3 f1 f2 p1 h.base
                    have hsame : ∀ ty, (Builtin.append_ #[t, t] ty #[c.rv r, a.eval x]).run P w = .ok v' w' := fun ty => g1
                    have hG := taken_part h hsrc f3 f5 g5 g6 g7
                    have h1 := h0.scrub d
                    have hm2 := mem_scrub_row hrd hm1
                    have hlen : (es1 ++ es2).length = es1.length + es2.length := List.length_append
                    rw [← hlen] at g2
                    have hnl : ∀ b, okB src c (st.freezeAll ids).ob b → some b ≠ (c.rv r).ownBlock := fun b hok e => hok.2 ⟨r, _, hm1, e.symm⟩
                    have hbk : ∀ b, b < w.heap.size → okB src c (st.freezeAll ids).ob b → w'.heap[b]? = w.heap[b]? := fun b hlt hok => g3.block b hlt (hnl b hok)
                    have hrep : RepL w' (xs ++ news) (es1 ++ es2).flatten (F1 ++ G) := by
                      rw [List.flatten_append]
                      exact (r4.frame fun b hb => hbk b (r4.lt b hb) (r5 b hb)).append (g5.frame fun b hb => hbk b (g5.lt b hb) (hG.1 b hb))
                    obtain ⟨ow', h2⟩ := h1.replRow (free_scrub _ d) hm2 (dp := deep1 && dp) g3.size (fun b hlt hne => g3.block b hlt hne) g4 g2 c2 (fun y hy => (List.mem_append.1 hy).elim (r1 y) (f2 y)) hrep
                      (fun b hb => by
                        rcases List.mem_append.1 hb with hb | hb
                        · exact ⟨r4.lt b hb, (r5 b hb).1, fun hl => (r5 b hb).2 (live_scrub hl)⟩
                        · exact ⟨g5.lt b hb, (hG.1 b hb).1, fun hl => (hG.1 b hb).2 (live_scrub hl)⟩)
                      (fun hdp => by
                        simp only [Bool.and_eq_true] at hdp
                        obtain ⟨n1, n2⟩ := r6 hdp.1
                        obtain ⟨n3, n4⟩ := hG.2 hdp.2
                        refine ⟨List.nodup_append.2 ⟨n1, n3, fun q hq q' hq' hqq => ?_⟩, fun b hb => ?_⟩
                        · subst hqq
                          obtain ⟨_, m2, _⟩ := n2 q hq
                          obtain ⟨_, _, r', m3, m4⟩ := n4 q hq'
                          rw [m2] at m3
                          injection m3 with m3
                          subst m3
                          exact m4 _ hm1
                        · rcases List.mem_append.1 hb with hb | hb
                          · obtain ⟨m1, m2, m3, m4⟩ := n2 b hb
                            exact ⟨m1, m4.keep (hbk b (r4.lt b hb) (r5 b hb)), r, m2, .inl rfl⟩
                          · obtain ⟨m1, m2, r', m3, m4⟩ := n4 b hb
                            exact ⟨m1, m2.keep (hbk b (g5.lt b hb) (hG.1 b hb)), r', m3, .inr fun y hy => by obtain ⟨y', hy'⟩ := mem_scrub hy; exact m4 y' hy'⟩)
                    unfold Oper.wp
                    rw [hexec _ _ v' w' hvs rfl hsame]
                    simp only [Oper.upon, hdst]
                    refine hK _ _ ⟨_, _, h2.put hd (fun _ => by simp [RelS, RelV, RelT, Cx.setRv]) (fun h => by cases h)⟩ ⟨g3.os, g3.tape, g3.output, g3.size, fun k hk => g3.block k (Nat.lt_of_lt_of_le hk h.base) fun e => ?_⟩
                    have := (ownsRow_lt r3 e.symm).2
                    omega
                  · cases hv
                · cases hv
              · cases hv
            · cases hv
          · cases hv
        · cases hv
      · cases hv
    · cases hv
  · cases hv
end
end Go.Ab
