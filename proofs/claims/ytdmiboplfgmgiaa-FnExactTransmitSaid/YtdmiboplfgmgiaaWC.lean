/-
  New rows, rows that take another's place, elements written. Over any program. Conditions: none.
-/
import Derived.Test.YtdmiboplfgmgiaaWB
set_option linter.unusedVariables false
set_option linter.unusedSectionVars false
namespace Go.V
open Go.Ab Go.RowKit

section
variable {M src : Nat → Prop} {c : Cx} {ow : Nat → Option Nat} {f : F} {a : Act} {w : World} {P : Program} {o : Oper} {ok : Nat → Prop}

theorem O.blk_but {c' : Cx} {d : Nat} (k : c.but c' d) {o b : Nat} (hne : o ≠ d) (x : O) : x.blk c' ow o b ↔ x.blk c ow o b := by
  cases x with
  | box cs => simp [O.blk, k.loc o hne]
  | row e kk t l deep => simp [O.blk, k.rv o hne]
  | win _ _ _ => exact Iff.rfl
theorem ObOk.but {c' : Cx} {d o : Nat} {x : O} (h : ObOk M c ow w ok o x) (hne : o ≠ d) (hn : x.names d = false) (k : c.but c' d) : ObOk M c' ow w ok o x := by
  cases x with
  | box cs =>
    obtain ⟨b1, b2, vs, ty, b3, b4⟩ := h
    simp only [O.names, List.any_eq_false] at hn
    exact ⟨by rw [k.loc o hne]; exact b1, by rw [k.loc o hne]; exact b2, vs, ty, by rw [k.loc o hne]; exact b3, b4.mono fun u t ht hr => hr.but (by simpa using hn t ht) k⟩
  | row e kk t l deep =>
    obtain ⟨r0, r1, r2, xs, G, r3, r4, r5, r6⟩ := h
    exact ⟨r0, r1, by rw [k.rv o hne]; exact r2, xs, G, by rw [k.rv o hne]; exact r3, r4, r5, by rw [k.rv o hne]; exact r6⟩
  | win kk t l =>
    obtain ⟨r0, r1, G, r2, r3, r4⟩ := h
    exact ⟨r0, r1, G, by rw [k.rv o hne]; exact r2, r3, r4⟩
theorem ObOk.le {o : Nat} {x y : O} (h : ObOk M c ow w ok o y) (hle : x.le y) : ObOk M c ow w ok o x := by
  cases hle with
  | box hall =>
    obtain ⟨b1, b2, vs, ty, b3, b4⟩ := h
    exact ⟨b1, b2, vs, ty, b3, b4.comp hall fun u t t' hr ht => by
      rcases ht with rfl | rfl
      · exact hr
      · trivial⟩
  | row hd =>
    obtain ⟨r0, r1, r2, xs, G, r3, r4, r5, r6⟩ := h
    exact ⟨r0, r1, r2, xs, G, r3, r4, r5, fun hd' => r6 (hd hd')⟩
  | win => exact h
theorem O.scrub_blk (d o b : Nat) (y : O) : (y.scrub d).blk c ow o b ↔ y.blk c ow o b := by cases y <;> exact Iff.rfl
theorem O.scrub_isSub {d : Nat} {y : O} (h : y.isSub = false) : (y.scrub d).isSub = false := by
  cases y with
  | box cs =>
    simp only [O.isSub, O.scrub, List.any_eq_false, List.mem_map] at h ⊢
    rintro t ⟨u, hu, rfl⟩
    have := C.isSub_scrub (d := d) (by simpa using h u hu)
    simp [this]
  | row _ _ _ _ _ => rfl
  | win _ _ _ => rfl

/-- The place of object d is taken by a new row: in new blocks, or in those of row d as it was. 'was': the block that row d had. -/
theorem SimC.putRow (h : SimC M src c ow f a w) (hsf : f.subFree) {w' : World} {d : Nat} {was : Option Nat} (hwas : ∀ b, was = some b → ow b = some d ∧ live c ow f.ob b) {v : Value} {e k : Nat} {t : Ty} {l : List (den t)} {xs : List Value} {G : List Nat} {deep : Bool}
    (hs : w.heap.size ≤ w'.heap.size) (hb : ∀ b, b < w.heap.size → some b ≠ was → w'.heap[b]? = w.heap[b]?) (hv : v.ownBlock = none ∨ v.ownBlock = was ∨ v.ownBlock = some w.heap.size) (hM : ∀ b, v.ownBlock = some b → M b) (hown : w'.ownsRow 0 e k v l.length xs) (hk0 : 0 < k) (hk : tyLen t = k)
    (hrep : RepL w' xs (l.map (cells t)).flatten G) (hG : ∀ b ∈ G, b < w.heap.size ∧ okB src c ow f.ob b) (hdeep : deep = true → G.Nodup ∧ ∀ b ∈ G, M b ∧ Unf w' b ∧ ∃ r, ow b = some r ∧ (r = d ∨ ∀ n x, (r, n, x) ∉ f.ob)) :
    ∃ ow', SimC M src (c.setRv d v) ow' (f.add d (.row e k t l deep)) a w' := by
  obtain ⟨ad, cap, hve, _⟩ := ownsRow_len hown
  have hrvs : ∀ q, ∃ ad n k, (c.setRv d v).rv q = .slice ad n k := by
    intro q
    simp only [Cx.setRv]
    split
    · exact ⟨_, _, _, hve⟩
    · exact h.rvs q
  have kb := c.but_rv d v
  have hrv : (c.setRv d v).rv d = v := by simp [Cx.setRv]
  let ow' : Nat → Option Nat := fun b => if v.ownBlock = some b ∨ (deep = true ∧ b ∈ G) then some d else ow b
  have how : ∀ b o, b < w.heap.size → (∃ n x, (o, n, x) ∈ f.ob) → o ≠ d → (ow' b = some o ↔ ow b = some o) := by
    intro b o hlt ⟨n, x, hm⟩ hne
    show (if v.ownBlock = some b ∨ (deep = true ∧ b ∈ G) then some d else ow b) = some o ↔ _
    split
    · rename_i hc
      constructor
      · intro e; injection e with e; exact absurd e.symm hne
      · intro e
        exfalso
        rcases hc with hc | ⟨hd, hbG⟩
        · rcases hv with hv | hv | hv
          · rw [hv] at hc; cases hc
          · rw [hv] at hc
            rw [(hwas b hc).1] at e
            injection e with e
            exact hne e.symm
          · rw [hv] at hc; injection hc with hc; omega
        · obtain ⟨_, _, r, q1, q2⟩ := (hdeep hd).2 b hbG
          rw [q1] at e
          injection e with e
          subst e
          rcases q2 with q2 | q2
          · exact hne q2
          · exact q2 n x hm
    · exact Iff.rfl
  have hnw : ∀ b, okB src c ow f.ob b → some b ≠ was := fun b hok e => hok.2 (hwas b e.symm).2
  have hlv : ∀ b, b < w.heap.size → live (c.setRv d v) ow' (f.add d (.row e k t l deep)).ob b → live c ow f.ob b := by
    rintro b hlt ⟨o, n, x, hm, hx⟩
    rcases List.mem_cons.1 hm with he | hm
    · injection he with e1 he
      injection he with _ e2
      subst e1 e2
      have hx : ((c.setRv o v).rv o).ownBlock = some b := hx
      rw [hrv] at hx
      rcases hv with hv | hv | hv
      · rw [hv] at hx; cases hx
      · rw [hv] at hx; exact (hwas b hx).2
      · rw [hv] at hx; injection hx with hx; omega
    · obtain ⟨hne, m, y, hy, rfl⟩ := scrub_mem' hm
      refine ⟨o, m, y, hy, ?_⟩
      rw [O.scrub_blk] at hx
      cases y with
      | box _ => exact (O.blk_but kb hne (.box _)).1 hx
      | row _ _ _ _ _ => exact (O.blk_but (ow := ow') kb hne _).1 hx
      | win _ _ _ => exact (how b o hlt ⟨m, _, hy⟩ hne).1 hx
  have kp : Keeps w w' (okB src c ow f.ob) (okB src (c.setRv d v) ow' (f.add d (.row e k t l deep)).ob) := ⟨hs, fun b hlt hok => hb b hlt (hnw b hok), fun b hlt hok => ⟨hok.1, fun hl => hok.2 (hlv b hlt hl)⟩⟩
  refine ⟨ow', h.defers, fun s n x hm => ?_, fun o n x hm => ?_, fun o n x m y hx hy => ?_, hrvs⟩
  · have hm1 := (List.mem_filter.1 hm).1
    have hm2 : x.names d = false := by simpa using (List.mem_filter.1 hm).2
    obtain ⟨u, hu, h1⟩ := h.fr s n x hm1
    exact ⟨u, hu, (h1.but hm2 kb).keep (hsf.1 s n x hm1) kp⟩
  · rcases List.mem_cons.1 hm with he | hm
    · injection he with e1 he
      injection he with _ e2
      subst e1 e2
      refine ⟨hk0, hk, fun g hg => ?_, xs, G, by rw [hrv]; exact hown, hrep, fun b hbG => kp.good b (hG b hbG).1 (hG b hbG).2, fun hd => ?_⟩
      · rw [hrv] at hg; exact ⟨hM g hg, by simp [ow', hg]⟩
      · obtain ⟨hnd, hall⟩ := hdeep hd
        refine ⟨hnd, fun b hbG => ?_⟩
        obtain ⟨q1, q2, _⟩ := hall b hbG
        refine ⟨q1, by simp [ow', hd, hbG], ?_, q2⟩
        rw [hrv]
        intro hvb
        obtain ⟨hlt, hok⟩ := hG b hbG
        rcases hv with hv | hv | hv
        · rw [hv] at hvb; cases hvb
        · rw [hv] at hvb; exact hnw b hok hvb.symm
        · rw [hv] at hvb; injection hvb with hvb; omega
    · obtain ⟨hne, m, y, hy, rfl⟩ := scrub_mem' hm
      have h1 := ((h.ob o m y hy).le (O.scrub_le d y)).but hne (O.scrub_names y d) kb
      refine h1.keep (O.scrub_isSub (hsf.2 o m y hy)) kp (fun b hlt how' hbb => hb b hlt fun e => ?_) (fun b hlt how' => (how b o hlt ⟨m, y, hy⟩ hne).2 how')
      rw [(hwas b e.symm).1] at how'
      injection how' with how'
      exact hne how'.symm
  · rcases List.mem_cons.1 hx with he | hx1
    · injection he with e1 e2
      injection e2 with _ e2
      rcases List.mem_cons.1 hy with he' | hy1
      · injection he' with e3 e4
        injection e4 with _ e4
        rw [e2, e4]
      · exact absurd e1 (scrub_mem' hy1).1
    · rcases List.mem_cons.1 hy with he' | hy1
      · injection he' with e3 e4
        exact absurd e3 (scrub_mem' hx1).1
      · obtain ⟨_, _, x', hx', rfl⟩ := scrub_mem' hx1
        obtain ⟨_, _, y', hy', rfl⟩ := scrub_mem' hy1
        rw [h.uniq _ _ _ _ _ hx' hy']

/-! ### what is moved into a row -/
/-- Facts on blocks that moved cells take up. -/
def Taken (M : Nat → Prop) (c : Cx) (ow : Nat → Option Nat) (w : World) (ok : Nat → Prop) (ids : List Nat) (dp : Bool) (G : List Nat) : Prop :=
  (∀ b ∈ G, ok b ∨ ∃ r ∈ ids, (c.rv r).ownBlock = some b) ∧ (dp = true → G.Nodup ∧ ∀ b ∈ G, M b ∧ Unf w b ∧ ∃ r ∈ ids, ow b = some r)
theorem Taken.append {i1 i2 : List Nat} {d1 d2 : Bool} {G H : List Nat} (h1 : Taken M c ow w ok i1 d1 G) (h2 : Taken M c ow w ok i2 d2 H) (hn : (i1 ++ i2).Nodup) : Taken M c ow w ok (i1 ++ i2) (d1 && d2) (G ++ H) := by
  refine ⟨fun b hb => ?_, fun hd => ?_⟩
  · rcases List.mem_append.1 hb with hb | hb
    · exact (h1.1 b hb).imp id fun ⟨r, hr, he⟩ => ⟨r, List.mem_append_left _ hr, he⟩
    · exact (h2.1 b hb).imp id fun ⟨r, hr, he⟩ => ⟨r, List.mem_append_right _ hr, he⟩
  · simp only [Bool.and_eq_true] at hd
    obtain ⟨n1, a1⟩ := h1.2 hd.1
    obtain ⟨n2, a2⟩ := h2.2 hd.2
    refine ⟨List.nodup_append.2 ⟨n1, n2, fun x hx y hy hxy => ?_⟩, fun b hb => ?_⟩
    · subst hxy
      obtain ⟨_, _, r1, hr1, e1⟩ := a1 x hx
      obtain ⟨_, _, r2, hr2, e2⟩ := a2 x hy
      rw [e1] at e2
      injection e2 with e2
      subst e2
      exact (List.nodup_append.1 hn).2.2 r1 hr1 r1 hr2 rfl
    · rcases List.mem_append.1 hb with hb | hb
      · obtain ⟨p1, p2, r, hr, he⟩ := a1 b hb; exact ⟨p1, p2, r, List.mem_append_left _ hr, he⟩
      · obtain ⟨p1, p2, r, hr, he⟩ := a2 b hb; exact ⟨p1, p2, r, List.mem_append_right _ hr, he⟩
/-- A row with its blocks, as data. -/
theorem row_taken (h : SimC M src c ow f a w) {r e k : Nat} {t : Ty} {l : List (den t)} {deep : Bool} (hr : f.obj r = some (.row e k t l deep)) : ∃ G, Rep w (c.rv r) (leafT (.sl t) l) G ∧ Taken M c ow w (okB src c ow f.ob) [r] deep G := by
  obtain ⟨r0, r1, r2, xs, G, r3, r4, r5, r6⟩ := h.obj hr
  have hkk : ∀ z ∈ l.map (cells t), z.length = k := fun z hz => by obtain ⟨y, _, rfl⟩ := List.mem_map.1 hz; rw [cells_len, r1]
  obtain ⟨hl, hform⟩ := r3
  rcases hform with ⟨hnil, h0⟩ | ⟨g, cap, cur, hrv, hB, hh, h1, h2, h3, h4⟩
  · have : l = [] := List.length_eq_zero_iff.1 h0
    subst this
    rw [hnil]
    exact ⟨[], .nil (Nat.zero_le _), by simp, fun _ => by simp⟩
  · rcases Nat.eq_zero_or_pos l.length with h0 | h0
    · have : l = [] := List.length_eq_zero_iff.1 h0
      subst this
      rw [hrv]
      exact ⟨[], .nil h2, by simp, fun _ => by simp⟩
    · have hob : (c.rv r).ownBlock = some g := by simp [hrv, Value.ownBlock]
      refine ⟨g :: G, ?_, fun b hb => ?_, fun hd => ?_⟩
      · rw [hrv]
        refine .cons (k := k) (by simp) h0 r0 hkk h1 h2 hl (fun j u hu => ?_) r4
        rw [Nat.zero_add]
        rw [← h4, List.getElem?_take] at hu
        split at hu
        · simp only [World.cell?, hh]
          simpa using hu
        · cases hu
      · rcases List.mem_cons.1 hb with rfl | hb
        · exact .inr ⟨r, List.mem_singleton.2 rfl, hob⟩
        · exact .inl (r5 b hb)
      · obtain ⟨n1, n2⟩ := r6 hd
        refine ⟨List.nodup_cons.2 ⟨fun hg => (n2 g hg).2.2.1 hob, n1⟩, fun b hb => ?_⟩
        rcases List.mem_cons.1 hb with rfl | hb
        · exact ⟨(r2 _ hob).1, ⟨cur, e, hh⟩, r, List.mem_singleton.2 rfl, (r2 _ hob).2⟩
        · obtain ⟨m1, m2, m3, m4⟩ := n2 b hb
          exact ⟨m1, m4, r, List.mem_singleton.2 rfl, m2⟩
theorem flat_leaf : ∀ {t : Ty} {x : den t} {v : Value} {G : List Nat}, Rep w v (leafT t x) G → (∀ t', t ≠ .sl t') → G = []
  | .int _, _, _, _, h, _ => by cases h; rfl
  | .bool, _, _, _, h, _ => by cases h; rfl
  | .str, _, _, _, h, _ => by cases h; rfl
  | .sl t, _, _, _, h, hn => absurd rfl (hn t)
  | .pair _ _, _, _, _, h, _ => by cases h
theorem mvC_sound (h : SimC M src c ow f a w) {t : Ty} {x : C} {y : den t} {v : Value} {ids : List Nat} {dp : Bool} (hm : mvC f x = some (ids, dp)) (hd : f.data t x = some y) (hv : RelC c ow w (okB src c ow f.ob) v x) : ∃ G, Rep w v (leafT t y) G ∧ Taken M c ow w (okB src c ow f.ob) ids dp G := by
  unfold F.data at hd
  split at hd
  · rename_i t' z
    obtain ⟨rfl, rfl⟩ := castTy_some hd
    obtain ⟨G, hr, hG⟩ := hv
    cases t' with
    | sl t' =>
      injection hm with hm; injection hm with e1 e2; subst e1 e2
      exact ⟨G, hr, fun b hb => .inl (hG b hb), fun h => by cases h⟩
    | _ =>
      injection hm with hm; injection hm with e1 e2; subst e1 e2
      have hG0 := flat_leaf hr (by simp)
      subst hG0
      exact ⟨[], hr, by simp, fun _ => by simp⟩
  · split at hd
    · injection hm with hm; injection hm with e1 e2; subst e1 e2
      injection hd with hd; subst hd
      have hv : v = .slice none 0 0 := hv
      subst hv
      exact ⟨[], .nil (Nat.zero_le _), by simp, fun _ => by simp⟩
    · cases hd
  · rename_i r
    have hv : v = c.rv r := hv
    subst hv
    simp only [mvC] at hm
    split at hd
    · rename_i e k t' l deep hrow
      obtain ⟨rfl, rfl⟩ := castTy_some hd
      rw [hrow] at hm
      injection hm with hm; injection hm with e1 e2; subst e1 e2
      exact row_taken h hrow
    · rename_i k t' l hrow
      rw [hrow] at hm
      cases hm
    · cases hd
  · cases hm
  · cases hd
theorem mvC_ids {x : C} {ids : List Nat} {dp : Bool} (hm : mvC f x = some (ids, dp)) : ∀ r ∈ ids, ∃ n e k, ∃ (t : Ty) (l : List (den t)), ∃ deep, (r, n, O.row e k t l deep) ∈ f.ob := by
  cases x with
  | row r =>
    simp only [mvC] at hm
    split at hm
    · rename_i e k t l deep hrow
      injection hm with hm; injection hm with e1 e2; subst e1 e2
      obtain ⟨n, hm⟩ := obj_mem hrow
      intro r' hr'
      rw [List.mem_singleton.1 hr']
      exact ⟨n, e, k, t, l, deep, hm⟩
    · cases hm
  | v t y => cases t <;> (injection hm with hm; injection hm with e1 e2; subst e1; simp)
  | nil => injection hm with hm; injection hm with e1 e2; subst e1; simp
  | ptr _ _ => cases hm
  | ep _ _ _ => cases hm
  | rp _ _ _ _ => cases hm
  | sub _ _ _ _ _ _ => cases hm
  | any => cases hm
theorem mvCs_ids : ∀ {cs : List C} {ids : List Nat} {dp : Bool}, mvCs f cs = some (ids, dp) → ∀ r ∈ ids, ∃ n e k, ∃ (t : Ty) (l : List (den t)), ∃ deep, (r, n, O.row e k t l deep) ∈ f.ob := by
  intro cs
  induction cs with
  | nil => intro ids dp hm; injection hm with hm; injection hm with e1 e2; subst e1; simp
  | cons x xs ih =>
    intro ids dp hm
    unfold mvCs at hm
    split at hm
    · rename_i i1 d1 i2 d2 h1 h2
      injection hm with hm; injection hm with e1 e2; subst e1
      intro r hr
      exact (List.mem_append.1 hr).elim (mvC_ids h1 r) (ih h2 r)
    · cases hm
theorem mvCs_app : ∀ {xs ys : List C} {ids : List Nat} {dp : Bool}, mvCs f (xs ++ ys) = some (ids, dp) → ∃ i1 d1 i2 d2, mvCs f xs = some (i1, d1) ∧ mvCs f ys = some (i2, d2) ∧ ids = i1 ++ i2 ∧ dp = (d1 && d2) := by
  intro xs
  induction xs with
  | nil => intro ys ids dp h; exact ⟨[], true, ids, dp, rfl, h, rfl, by simp⟩
  | cons x xs ih =>
    intro ys ids dp h
    rw [List.cons_append] at h
    unfold mvCs at h
    split at h
    · rename_i i1 d1 i2 d2 h1 h2
      injection h with h; injection h with e1 e2; subst e1 e2
      obtain ⟨j1, e1, j2, e2, g1, g2, rfl, rfl⟩ := ih h2
      exact ⟨i1 ++ j1, d1 && e1, j2, e2, by unfold mvCs; rw [h1, g1], g2, by simp, by simp [Bool.and_assoc]⟩
    · cases h
theorem map_pair {α β : Type} {x : Option α} {cs r : β} {y : α} (h : x.map (fun z => (z, cs)) = some (y, r)) : x = some y ∧ cs = r := by
  obtain ⟨z, hz, he⟩ := Option.map_eq_some_iff.1 h
  injection he with e1 e2
  subst e1 e2
  exact ⟨hz, rfl⟩
theorem dataL_more : ∀ {t : Ty} {us r : List C} {y : den t} (rest : List C), f.dataL t us = some (y, r) → f.dataL t (us ++ rest) = some (y, r ++ rest)
  | .int k, [], r, y, rest, h => by cases h
  | .bool, [], r, y, rest, h => by cases h
  | .str, [], r, y, rest, h => by cases h
  | .sl t, [], r, y, rest, h => by cases h
  | .int k, c :: cs, r, y, rest, h => by obtain ⟨h1, rfl⟩ := map_pair h; show (f.data _ c).map (fun z => (z, cs ++ rest)) = _; rw [h1]; rfl
  | .bool, c :: cs, r, y, rest, h => by obtain ⟨h1, rfl⟩ := map_pair h; show (f.data _ c).map (fun z => (z, cs ++ rest)) = _; rw [h1]; rfl
  | .str, c :: cs, r, y, rest, h => by obtain ⟨h1, rfl⟩ := map_pair h; show (f.data _ c).map (fun z => (z, cs ++ rest)) = _; rw [h1]; rfl
  | .sl t, c :: cs, r, y, rest, h => by obtain ⟨h1, rfl⟩ := map_pair h; show (f.data _ c).map (fun z => (z, cs ++ rest)) = _; rw [h1]; rfl
  | .pair a b, us, r, y, rest, h => by
    simp only [F.dataL] at h ⊢
    split at h
    · rename_i x cs1 h1
      split at h
      · rename_i z cs2 h2
        injection h with h; injection h with e1 e2; subst e1 e2
        rw [dataL_more rest h1]
        simp only
        rw [dataL_more rest h2]
      · cases h
    · cases h
/-- Cells as data: which of them are used up. -/
theorem dataL_app : ∀ {t : Ty} {cs rest : List C} {y : den t}, f.dataL t cs = some (y, rest) → ∃ us, cs = us ++ rest ∧ us.length = tyLen t ∧ f.dataL t us = some (y, [])
  | .int k, [], rest, y, h => by cases h
  | .bool, [], rest, y, h => by cases h
  | .str, [], rest, y, h => by cases h
  | .sl t, [], rest, y, h => by cases h
  | .int k, c :: cs, rest, y, h => by obtain ⟨h1, rfl⟩ := map_pair h; exact ⟨[c], rfl, rfl, by show (f.data _ c).map (fun z => (z, [])) = _; rw [h1]; rfl⟩
  | .bool, c :: cs, rest, y, h => by obtain ⟨h1, rfl⟩ := map_pair h; exact ⟨[c], rfl, rfl, by show (f.data _ c).map (fun z => (z, [])) = _; rw [h1]; rfl⟩
  | .str, c :: cs, rest, y, h => by obtain ⟨h1, rfl⟩ := map_pair h; exact ⟨[c], rfl, rfl, by show (f.data _ c).map (fun z => (z, [])) = _; rw [h1]; rfl⟩
  | .sl t, c :: cs, rest, y, h => by obtain ⟨h1, rfl⟩ := map_pair h; exact ⟨[c], rfl, rfl, by show (f.data _ c).map (fun z => (z, [])) = _; rw [h1]; rfl⟩
  | .pair a b, cs, rest, y, h => by
    simp only [F.dataL] at h
    split at h
    · rename_i x cs1 h1
      split at h
      · rename_i z cs2 h2
        injection h with h; injection h with e1 e2; subst e1 e2
        obtain ⟨u1, rfl, l1, g1⟩ := dataL_app h1
        obtain ⟨u2, rfl, l2, g2⟩ := dataL_app h2
        refine ⟨u1 ++ u2, by simp, by simp [tyLen, l1, l2], ?_⟩
        simp only [F.dataL]
        rw [dataL_more u2 g1]
        simp only [List.nil_append]
        rw [g2]
      · cases h
    · cases h
theorem dataL_pair {a b : Ty} {cs : List C} {y : den (.pair a b)} (h : f.dataL (.pair a b) cs = some (y, [])) : ∃ u1 u2, cs = u1 ++ u2 ∧ u1.length = tyLen a ∧ f.dataL a u1 = some (y.1, []) ∧ f.dataL b u2 = some (y.2, []) := by
  simp only [F.dataL] at h
  split at h
  · rename_i x cs1 h1
    split at h
    · rename_i z cs2 h2
      injection h with h; injection h with e1 e2; subst e1 e2
      obtain ⟨u1, rfl, l1, g1⟩ := dataL_app h1
      exact ⟨u1, cs1, rfl, l1, g1, h2⟩
    · cases h
  · cases h
theorem dataL_one {t : Ty} (ht : ∀ a b, t ≠ .pair a b) {cs : List C} {y : den t} (h : f.dataL t cs = some (y, [])) : ∃ x, cs = [x] ∧ f.data t x = some y := by
  cases t with
  | pair a b => exact absurd rfl (ht a b)
  | _ =>
    cases cs with
    | nil => cases h
    | cons x xs => obtain ⟨h1, h2⟩ := map_pair h; subst h2; exact ⟨x, rfl, h1⟩
theorem cells_leaf {t : Ty} (ht : ∀ a b, t ≠ .pair a b) (x : den t) : cells t x = [leafT t x] := by
  cases t with
  | pair a b => exact absurd rfl (ht a b)
  | _ => rfl
/-- Cells that are moved, as data with their blocks. -/
theorem mvL_sound (h : SimC M src c ow f a w) : ∀ {t : Ty} {cs : List C} {y : den t} {vs : List Value} {ids : List Nat} {dp : Bool}, f.dataL t cs = some (y, []) → mvCs f cs = some (ids, dp) → All2 (RelC c ow w (okB src c ow f.ob)) vs cs → ids.Nodup → ∃ G, RepL w vs (cells t y) G ∧ Taken M c ow w (okB src c ow f.ob) ids dp G := by
  have leaf : ∀ {t : Ty}, (∀ a b, t ≠ .pair a b) → ∀ {cs : List C} {y : den t} {vs : List Value} {ids : List Nat} {dp : Bool}, f.dataL t cs = some (y, []) → mvCs f cs = some (ids, dp) → All2 (RelC c ow w (okB src c ow f.ob)) vs cs → ∃ G, RepL w vs (cells t y) G ∧ Taken M c ow w (okB src c ow f.ob) ids dp G := by
    intro t ht cs y vs ids dp hd hm hv
    obtain ⟨x, rfl, hx⟩ := dataL_one ht hd
    simp only [mvCs] at hm
    split at hm
    · rename_i i1 d1 i2 d2 h1 h2
      injection hm with hm; injection hm with e1 e2; subst e1 e2
      injection h2 with h2; injection h2 with e1 e2; subst e1 e2
      cases hv with
      | cons hr hrs =>
        cases hrs
        obtain ⟨G, g1, g2⟩ := mvC_sound h h1 hx hr
        rw [cells_leaf ht]
        exact ⟨G ++ [], .cons g1 .nil, by simpa using g2⟩
    · cases hm
  intro t
  induction t with
  | pair a b iha ihb =>
    intro cs y vs ids dp hd hm hv hn
    obtain ⟨u1, u2, rfl, l1, d1, d2⟩ := dataL_pair hd
    obtain ⟨i1, e1, i2, e2, m1, m2, rfl, rfl⟩ := mvCs_app hm
    have hv1 := hv.take u1.length
    have hv2 := hv.drop u1.length
    rw [List.take_left] at hv1
    rw [List.drop_left] at hv2
    obtain ⟨G, g1, g2⟩ := iha d1 m1 hv1 (List.nodup_append.1 hn).1
    obtain ⟨H, g3, g4⟩ := ihb d2 m2 hv2 (List.nodup_append.1 hn).2.1
    refine ⟨G ++ H, ?_, g2.append g4 hn⟩
    have := g1.append g3
    rw [List.take_append_drop] at this
    exact this
  | _ => intro cs y vs ids dp hd hm hv _; exact leaf (by simp) hd hm hv
theorem mvCs_solid : ∀ {cs : List C} {ids : List Nat} {dp : Bool}, mvCs f cs = some (ids, dp) → cs.all C.solid = true ∧ cs.any C.isSub = false := by
  intro cs
  induction cs with
  | nil => intros; exact ⟨rfl, rfl⟩
  | cons x xs ih =>
    intro ids dp h
    unfold mvCs at h
    split at h
    · rename_i i1 d1 i2 d2 h1 h2
      obtain ⟨g1, g2⟩ := ih h2
      refine ⟨?_, ?_⟩
      · simp only [List.all_cons, Bool.and_eq_true]
        exact ⟨by cases x <;> first | rfl | (cases h1; done), g1⟩
      · simp only [List.any_cons, Bool.or_eq_false_iff]
        exact ⟨by cases x <;> first | rfl | (cases h1; done), g2⟩
    · cases h
/-- Behind the freezing, what was taken up is let, and owned by rows that are no more. -/
theorem Taken.frozen (h : SimC M src c ow f a w) (hsrc : ∀ b, M b → src b) {ids all : List Nat} {dp : Bool} {G : List Nat} (hsub : ∀ r ∈ ids, r ∈ all) (hids : ∀ r ∈ ids, ∃ n e k, ∃ (t : Ty) (l : List (den t)), ∃ deep, (r, n, O.row e k t l deep) ∈ f.ob) (ht : Taken M c ow w (okB src c ow f.ob) ids dp G) :
    (∀ b ∈ G, okB src c ow (f.frzAll all).ob b) ∧ (dp = true → G.Nodup ∧ ∀ b ∈ G, M b ∧ Unf w b ∧ ∃ r, ow b = some r ∧ ∀ n x, (r, n, x) ∉ (f.frzAll all).ob) := by
  refine ⟨fun b hb => ?_, fun hd => ?_⟩
  · rcases ht.1 b hb with hok | ⟨r, hr, he⟩
    · exact ⟨hok.1, fun hl => hok.2 (live_frzAll hl)⟩
    · obtain ⟨n, e, k, t, l, deep, hm⟩ := hids r hr
      exact (frzAll_own h hsrc (hsub r hr) hm).1 b he
  · obtain ⟨n1, n2⟩ := ht.2 hd
    refine ⟨n1, fun b hb => ?_⟩
    obtain ⟨m1, m2, r, hr, he⟩ := n2 b hb
    obtain ⟨n, e, k, t, l, deep, hm⟩ := hids r hr
    exact ⟨m1, m2, r, he, (frzAll_own h hsrc (hsub r hr) hm).2⟩
end
end Go.V
