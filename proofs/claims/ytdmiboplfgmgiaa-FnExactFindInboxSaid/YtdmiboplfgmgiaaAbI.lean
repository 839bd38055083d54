/-
  A row's element is written; results in memory of their own at a function's end; an object renamed; nil as an empty row. Over any program. Conditions: the obligations that the abstract operations list.
-/
import Derived.Test.YtdmiboplfgmgiaaAbH
namespace Go.Ab
open Go.RowKit

/-! ### an element of a row is written -/
/-- The elements with a part of element i written anew. -/
def setEl (k : Nat) (es : List (List T)) (i off : Nat) (ts : List T) : List (List T) :=
  if off = 0 ∧ ts.length = k then es.set i ts else es.modify i fun el => sp el off ts
def setRowOb (r : Nat) (x : LO) (l : List (Nat × LO)) : List (Nat × LO) := l.map fun e => if e.1 = r then (r, x) else e

section
variable {B : Nat} {src : Nat → Prop} {c : Cx} {ow : Nat → Option Nat} {st : St} {a : Act} {w : World} {P : Program} {o : Oper}

theorem flatten_set {k : Nat} : ∀ {es : List (List T)} {i : Nat} {el' : List T}, (∀ x ∈ es, x.length = k) → i < es.length → el'.length = k → (es.set i el').flatten = sp es.flatten (i * k) el'
  | [], i, el', _, hi, _ => by simp at hi
  | e :: es, 0, el', hk, _, hl => by
    have he : e.length = k := hk e (List.mem_cons_self ..)
    simp [sp, hl, ← he]
  | e :: es, i + 1, el', hk, hi, hl => by
    have he : e.length = k := hk e (List.mem_cons_self ..)
    have ih := flatten_set (es := es) (i := i) (el' := el') (fun x hx => hk x (List.mem_cons_of_mem _ hx)) (by simpa using hi) hl
    rw [List.set_cons_succ, List.flatten_cons, ih, List.flatten_cons]
    unfold sp
    have h1 : (i + 1) * k = e.length + i * k := by rw [Nat.succ_mul, he]; omega
    rw [h1, List.take_length_add_append, Nat.add_assoc, List.drop_length_add_append]
    simp
theorem sp_length {α : Type} {L cs : List α} {off : Nat} (h : off + cs.length ≤ L.length) : (sp L off cs).length = L.length := by
  unfold sp
  simp
  omega
theorem sp_sp {L el ts : List T} {p k off : Nat} (hel : el = (L.drop p).take k) (hp : p + k ≤ L.length) (ho : off + ts.length ≤ k) : sp L p (sp el off ts) = sp L (p + off) ts := by
  have hel' : el.length = k := by rw [hel]; simp; omega
  have hsl : (sp el off ts).length = k := by rw [sp_length (by omega)]; exact hel'
  unfold sp at hsl ⊢
  rw [hsl]
  have e1 : el.take off = (L.drop p).take off := by rw [hel, List.take_take]; congr 1; omega
  have e2 : el.drop (off + ts.length) = ((L.drop p).drop (off + ts.length)).take (k - (off + ts.length)) := by rw [hel, List.drop_take]
  rw [e1, e2]
  have e3 : L.take (p + off) = L.take p ++ (L.drop p).take off := List.take_add
  rw [e3]
  have e4 : L.drop (p + off + ts.length) = ((L.drop p).drop (off + ts.length)).take (k - (off + ts.length)) ++ L.drop (p + k) := by
    rw [List.drop_drop]
    have : L.drop (p + k) = (L.drop (p + (off + ts.length))).drop (k - (off + ts.length)) := by
      rw [List.drop_drop]; congr 1; omega
    rw [this, List.take_append_drop]
    congr 1
    omega
  rw [e4]
  simp
theorem setEl_flatten {k : Nat} {es : List (List T)} {i off : Nat} {ts : List T} (hk : ∀ x ∈ es, x.length = k) (hi : i < es.length) (ho : off + ts.length ≤ k) :
    (setEl k es i off ts).flatten = sp es.flatten (i * k + off) ts ∧ (∀ x ∈ setEl k es i off ts, x.length = k) ∧ (setEl k es i off ts).length = es.length := by
  unfold setEl
  split
  · rename_i h
    obtain ⟨rfl, hl⟩ := h
    refine ⟨by rw [flatten_set hk hi hl, Nat.add_zero], fun x hx => ?_, by simp⟩
    rcases List.mem_or_eq_of_mem_set hx with hx | rfl
    · exact hk x hx
    · exact hl
  · have hel : es[i]? = some es[i] := List.getElem?_eq_getElem hi
    have hlen : es[i].length = k := hk _ (List.getElem_mem hi)
    have hm : es.modify i (fun el => sp el off ts) = es.set i (sp es[i] off ts) := by
      apply List.ext_getElem?
      intro j
      rw [List.getElem?_modify, List.getElem?_set]
      by_cases hj : i = j
      · subst hj; simp [hi]
      · simp [hj]
    rw [hm]
    have hsl : (sp es[i] off ts).length = k := by rw [sp_length (by omega)]; exact hlen
    refine ⟨?_, fun x hx => ?_, by simp⟩
    · rw [flatten_set hk hi hsl]
      refine sp_sp (flatten_get hk hel).symm ?_ ho
      rw [flatten_length hk]
      have h1 : i * k + k = (i + 1) * k := (Nat.succ_mul i k).symm
      rw [h1]
      exact Nat.mul_le_mul_right _ hi
    · rcases List.mem_or_eq_of_mem_set hx with hx | rfl
      · exact hk x hx
      · exact hsl

/-- three parts -/
theorem RepL.parts {xs : List Value} {ts : List T} {F : List Nat} (h : RepL w xs ts F) (p q : Nat) : ∃ F1 F2 F3, RepL w (xs.take p) (ts.take p) F1 ∧ RepL w ((xs.drop p).take q) ((ts.drop p).take q) F2 ∧ RepL w (xs.drop (p + q)) (ts.drop (p + q)) F3 ∧ F = F1 ++ (F2 ++ F3) := by
  obtain ⟨F1, H, a1, a2, a3⟩ := h.take p
  obtain ⟨F2, F3, b1, b2, b3⟩ := a2.take q
  exact ⟨F1, F2, F3, a1, b1, by simpa [List.drop_drop] using b2, by rw [a3, b3]⟩
theorem RepL.sp {xs us : List Value} {ts ts' : List T} {F G : List Nat} (h : RepL w xs ts F) (h' : RepL w us ts' G) (off : Nat) : ∃ F1 F3, RepL w (sp xs off us) (sp ts off ts') (F1 ++ G ++ F3) ∧ (∀ b ∈ F1 ++ F3, b ∈ F) ∧ (F.Nodup → (F1 ++ F3).Nodup) := by
  unfold Go.Ab.sp
  rw [h'.length]
  obtain ⟨F1, F2, F3, a1, a2, a3, a4⟩ := h.parts off ts'.length
  refine ⟨F1, F3, (a1.append h').append a3, ?_, ?_⟩
  · intro b hb
    rw [a4]
    rcases List.mem_append.1 hb with hb | hb
    · exact List.mem_append_left _ hb
    · exact List.mem_append_right _ (List.mem_append_right _ hb)
  · intro hnd
    rw [a4] at hnd
    obtain ⟨n1, n2, n3⟩ := List.nodup_append.1 hnd
    exact List.nodup_append.2 ⟨n1, (List.nodup_append.1 n2).2.1, fun x hx y hy => n3 x hx y (List.mem_append_right _ hy)⟩

theorem mem_setRowOb {r : Nat} {x : LO} {l : List (Nat × LO)} {o' : Nat} {y : LO} (h : (o', y) ∈ setRowOb r x l) : (o' ≠ r ∧ (o', y) ∈ l) ∨ (o' = r ∧ y = x) := by
  simp only [setRowOb, List.mem_map] at h
  obtain ⟨⟨o1, z⟩, hz, he⟩ := h
  split at he
  · injection he with e1 e2; exact .inr ⟨e1.symm, e2.symm⟩
  · rename_i hne; injection he with e1 e2; subst e1 e2; exact .inl ⟨hne, hz⟩

theorem storeRow_sound (h : SimC B src c ow st a w) {r e k : Nat} {es : List (List T)} {deep : Bool} (hr : (r, .row e k es deep) ∈ st.ob) {i off : Nat} {ts : List T} {us : List Value} {G : List Nat} {dp : Bool} (hi : i < es.length) (ho : off + ts.length ≤ k) (hu : RepL w us ts G) (hG : ∀ b ∈ G, okB src c st.ob b)
    (hdp : dp = true → G.Nodup ∧ ∀ b ∈ G, B ≤ b ∧ Unf w b ∧ ∃ r', ow b = some r' ∧ ∀ x, (r', x) ∉ st.ob) {g n cap : Nat} (hrv : c.rv r = .slice (some ⟨g, 0, none⟩) n cap) :
    ∃ w' ow', (storeCells ⟨g, i * k + off, none⟩ us).run P w = .ok () w' ∧ SimC B src c ow' ⟨st.fr, setRowOb r (.row e k (setEl k es i off ts) (deep && dp)) st.ob⟩ a w' ∧ Below B w w' := by
  obtain ⟨r0, r1, r2, xs, F, r3, r4, r5, r6⟩ := h.ob _ _ hr
  obtain ⟨s1, s2, s3⟩ := setEl_flatten r1 hi ho
  have hob : (c.rv r).ownBlock = some g := by simp [hrv, Value.ownBlock]
  have hBg := (ownsRow_lt r3 hob).2
  have hglt := (ownsRow_lt r3 hob).1
  have r3' := r3
  obtain ⟨hxl, hform⟩ := r3
  rcases hform with ⟨hn, _⟩ | ⟨g', cap', cur, hrv', _, hh, h1, h2, h3, h4⟩
  · rw [hrv] at hn; cases hn
  · rw [hrv] at hrv'
    injection hrv' with e1 e2 e3
    injection e1 with e1
    injection e1 with e1 _ _
    subst e1 e2 e3
    have hul : us.length = ts.length := hu.length
    have hik : i * k + k ≤ es.length * k := by rw [← Nat.succ_mul]; exact Nat.mul_le_mul_right _ hi
    have hnc : es.length * k ≤ cap * k := Nat.mul_le_mul_right _ h1
    have hrun := run_storeCells_at (P := P) g (i * k + off) e us 0 cur w hh (by omega) (repL_one hu)
    simp only [Nat.add_zero] at hrun
    refine ⟨_, fun b => if dp = true ∧ b ∈ G then some r else ow b, hrun, ?_, ?_⟩
    · have hother : ∀ b, b ≠ g → (w.setRow g (cur.toList.take (i * k + off) ++ us ++ cur.toList.drop (i * k + off + us.length)).toArray).heap[b]? = w.heap[b]? := by
        intro b hne
        simp only [World.setRow, Array.getElem?_modify]
        rw [if_neg (Ne.symm hne)]
      have hsz : (w.setRow g (cur.toList.take (i * k + off) ++ us ++ cur.toList.drop (i * k + off + us.length)).toArray).heap.size = w.heap.size := by simp [World.setRow]
      have hlive : live c st.ob g := ⟨r, _, hr, hob⟩
      have hbk : ∀ b, b < w.heap.size → ¬ live c st.ob b → (w.setRow g (cur.toList.take (i * k + off) ++ us ++ cur.toList.drop (i * k + off + us.length)).toArray).heap[b]? = w.heap[b]? := fun b _ hnl => hother b fun e => hnl (e ▸ hlive)
      have hlv : ∀ b, live c (setRowOb r (.row e k (setEl k es i off ts) (deep && dp)) st.ob) b → live c st.ob b := by
        rintro b ⟨o', y, hm, hy⟩
        rcases mem_setRowOb hm with ⟨_, hm⟩ | ⟨rfl, rfl⟩
        · exact ⟨o', y, hm, hy⟩
        · exact ⟨o', _, hr, hy⟩
      have hokg : ∀ b, okB src c st.ob b → okB src c (setRowOb r (.row e k (setEl k es i off ts) (deep && dp)) st.ob) b := fun b hok => ⟨hok.1, fun hl => hok.2 (hlv b hl)⟩
      have hokb : ∀ b, okB src c st.ob b → b ≠ g := fun b hok e => hok.2 (e ▸ hlive)
      refine h.step (by omega) hbk (fun b _ hl => hlv b hl) (fun o' y hm => ?_) (fun o' y z hy hz => ?_)
      · rcases mem_setRowOb hm with ⟨hne, hm⟩ | ⟨rfl, rfl⟩
        · refine .inl ⟨hm, fun b hbb => hother b fun e => hne (h.apart hm hr (e ▸ hbb) hob), fun b _ how => ?_⟩
          show (if dp = true ∧ b ∈ G then some r else ow b) = some o'
          rw [if_neg]
          · exact how
          · rintro ⟨hd, hbG⟩
            obtain ⟨_, _, r', q1, q2⟩ := (hdp hd).2 b hbG
            rw [q1] at how
            injection how with how
            subst how
            exact q2 y hm
        · obtain ⟨F1, F3, t1, t2, t3⟩ := r4.sp hu (i * k + off)
          rw [← s1] at t1
          have hFF : ∀ b ∈ F1 ++ G ++ F3, okB src c st.ob b := by
            intro b hb
            rcases List.mem_append.1 hb with hb | hb
            · rcases List.mem_append.1 hb with hb | hb
              · exact r5 b (t2 b (List.mem_append_left _ hb))
              · exact hG b hb
            · exact r5 b (t2 b (List.mem_append_right _ hb))
          refine .inr ⟨r0, s2, fun q hq => ?_, sp xs (i * k + off) us, F1 ++ G ++ F3, ?_, t1.frame fun b hb => hother b (hokb b (hFF b hb)), fun b hb => hokg b (hFF b hb), fun hd => ?_⟩
          · show (if dp = true ∧ q ∈ G then some o' else ow q) = some o'
            split
            · rfl
            · exact r2 q hq
          · rw [s3]
            refine ⟨by rw [sp_length (by rw [hxl, hul]; omega)]; exact hxl, .inr ⟨g, cap, _, hrv, hBg, setRow_heap w g cur _ e (0, 0) hh, h1, h2, ?_, ?_⟩⟩
            · simp [hul]; omega
            · show (cur.toList.take (i * k + off) ++ us ++ cur.toList.drop (i * k + off + us.length)).take (es.length * k) = sp xs (i * k + off) us
              unfold sp
              rw [← h4, List.take_append, List.take_append, List.take_take, List.take_take, List.drop_take]
              have a1 : min (es.length * k) (i * k + off) = i * k + off := by omega
              have a2 : min (i * k + off) (es.length * k) = i * k + off := by omega
              have a3 : (cur.toList.take (i * k + off)).length = i * k + off := by simp; omega
              rw [a1, a2, List.length_append, a3, List.take_of_length_le (l := us) (by omega)]
          · simp only [Bool.and_eq_true] at hd
            obtain ⟨n1, n2⟩ := r6 hd.1
            obtain ⟨n3, n4⟩ := hdp hd.2
            have hap : ∀ b, b ∈ F1 ++ F3 → b ∈ G → False := by
              intro b hb hbG
              obtain ⟨_, q2, _⟩ := n2 b (t2 b hb)
              obtain ⟨_, _, r', q3, q4⟩ := n4 b hbG
              rw [q2] at q3
              injection q3 with q3
              subst q3
              exact q4 _ hr
            have hnd13 := t3 n1
            refine ⟨?_, fun b hb => ?_⟩
            · obtain ⟨m1, m2, m3⟩ := List.nodup_append.1 hnd13
              refine List.nodup_append.2 ⟨List.nodup_append.2 ⟨m1, n3, fun x hx y hy hxy => hap x (List.mem_append_left _ hx) (hxy ▸ hy)⟩, m2, fun x hx y hy hxy => ?_⟩
              rcases List.mem_append.1 hx with hx | hx
              · exact m3 x hx y hy hxy
              · exact hap x (List.mem_append_right _ (hxy ▸ hy)) hx
            · have hne := hokb b (hFF b hb)
              by_cases hbG : b ∈ G
              · obtain ⟨q1, q2, _⟩ := n4 b hbG
                exact ⟨q1, by simp [hd.2, hbG], by rw [hob]; intro e; injection e with e; exact hne e.symm, q2.keep (hother b hne)⟩
              · have hb13 : b ∈ F1 ++ F3 := by
                  rcases List.mem_append.1 hb with hb | hb
                  · rcases List.mem_append.1 hb with hb | hb
                    · exact List.mem_append_left _ hb
                    · exact absurd hb hbG
                  · exact List.mem_append_right _ hb
                obtain ⟨q1, q2, q3, q4⟩ := n2 b (t2 b hb13)
                exact ⟨q1, by simp [hbG, q2], q3, q4.keep (hother b hne)⟩
      · rcases mem_setRowOb hy with ⟨hne, hm⟩ | ⟨e1, rfl⟩
        · rcases mem_setRowOb hz with ⟨_, hm'⟩ | ⟨e2, _⟩
          · exact h.uniq _ _ _ hm hm'
          · exact absurd e2 hne
        · rcases mem_setRowOb hz with ⟨hne, _⟩ | ⟨_, rfl⟩
          · exact absurd e1 hne
          · rfl
    · refine ⟨rfl, rfl, rfl, by simp [World.setRow], fun q hq => ?_⟩
      simp only [World.setRow, Array.getElem?_modify]
      rw [if_neg (by omega)]

/-! ### results in memory of their own -/
def frT (st : St) (ek : Nat × Nat) : T → Option (T × List Nat)
  | .lit v => some (.lit v, [])
  | .nil => if 0 < ek.2 then some (.sl [], []) else none
  | .row r =>
    match st.row r with
    | some (e, k, es, deep) => if e = ek.1 ∧ k = ek.2 ∧ deep = true then some (.sl es, [r]) else none
    | none => none
  | _ => none
def frL (st : St) : List (Nat × Nat) → List T → Option (List T × List Nat)
  | [], [] => some ([], [])
  | ek :: eks, t :: ts =>
    match frT st ek t, frL st eks ts with
    | some (t', i1), some (ts', i2) => some (t' :: ts', i1 ++ i2)
    | _, _ => none
  | _, _ => none
def frV (st : St) (eks : List (Nat × Nat)) : AV → Option (AV × List Nat)
  | .one t =>
    match eks with
    | [ek] => (frT st ek t).map fun r => (.one r.1, r.2)
    | _ => none
  | .agg ts => (frL st eks ts).map fun r => (.agg r.1, r.2)
def frVs (st : St) : List (List (Nat × Nat)) → List AV → Option (List AV × List Nat)
  | [], [] => some ([], [])
  | eks :: ekss, x :: xs =>
    match frV st eks x, frVs st ekss xs with
    | some (x', i1), some (xs', i2) => some (x' :: xs', i1 ++ i2)
    | _, _ => none
  | _, _ => none
def TakenF (B : Nat) (ow : Nat → Option Nat) (w : World) (ids F : List Nat) : Prop := F.Nodup ∧ ∀ b ∈ F, B ≤ b ∧ Unf w b ∧ ∃ r ∈ ids, ow b = some r
theorem TakenF.append {i1 i2 F G : List Nat} (h1 : TakenF B ow w i1 F) (h2 : TakenF B ow w i2 G) (hn : (i1 ++ i2).Nodup) : TakenF B ow w (i1 ++ i2) (F ++ G) := by
  obtain ⟨n1, a1⟩ := h1
  obtain ⟨n2, a2⟩ := h2
  refine ⟨List.nodup_append.2 ⟨n1, n2, fun x hx y hy hxy => ?_⟩, fun b hb => ?_⟩
  · subst hxy
    obtain ⟨_, _, r1, hr1, e1⟩ := a1 x hx
    obtain ⟨_, _, r2, hr2, e2⟩ := a2 x hy
    rw [e1] at e2
    injection e2 with e2
    subst e2
    exact (List.nodup_append.1 hn).2.2 r1 hr1 r1 hr2 rfl
  · rcases List.mem_append.1 hb with hb | hb
    · obtain ⟨p1, p2, r, hr, he⟩ := a1 b hb; exact ⟨p1, p2, r, List.mem_append_left _ hr, he⟩
    · obtain ⟨p1, p2, r, hr, he⟩ := a2 b hb; exact ⟨p1, p2, r, List.mem_append_right _ hr, he⟩
theorem frT_sound (h : SimC B src c ow st a w) {ek : Nat × Nat} {t t' : T} {v : Value} {ids : List Nat} (hm : frT st ek t = some (t', ids)) (hv : RelT c w (okB src c st.ob) v t) : ∃ F, OwnT w B ek v t' F ∧ TakenF B ow w ids F := by
  cases t with
  | lit u =>
    injection hm with hm; injection hm with e1 e2; subst e1 e2
    obtain ⟨rfl, hp⟩ := hv
    exact ⟨[], ⟨rfl, hp, rfl⟩, List.nodup_nil, by simp⟩
  | nil =>
    simp only [frT] at hm
    split at hm
    · rename_i hk
      injection hm with hm; injection hm with e1 e2; subst e1 e2
      have : v = .slice none 0 0 := hv
      subst this
      exact ⟨[], ⟨[], [], hk, by simp, ⟨by simp, .inl ⟨rfl, rfl⟩⟩, .nil, rfl⟩, List.nodup_nil, by simp⟩
    · cases hm
  | row r =>
    simp only [frT] at hm
    split at hm
    · rename_i e k es deep hrow
      split at hm
      · rename_i hc
        obtain ⟨rfl, rfl, rfl⟩ := hc
        injection hm with hm; injection hm with e1 e2; subst e1 e2
        have : v = c.rv r := hv
        subst this
        obtain ⟨r0, r1, r2, xs, F, r3, r4, r5, r6⟩ := h.ob _ _ (row_mem hrow)
        obtain ⟨n1, n2⟩ := r6 rfl
        refine ⟨(c.rv r).ownBlock.toList ++ F, ⟨xs, F, r0, r1, r3, r4, rfl⟩, ?_, fun b hb => ?_⟩
        · refine List.nodup_append.2 ⟨?_, n1, fun x hx y hy hxy => ?_⟩
          · cases (c.rv r).ownBlock <;> simp
          · subst hxy
            exact (n2 x hy).2.2.1 (by simpa using hx)
        · rcases List.mem_append.1 hb with hb | hb
          · have hb' : (c.rv r).ownBlock = some b := by simpa using hb
            have hB := (ownsRow_lt r3 hb').2
            refine ⟨hB, ?_, r, List.mem_singleton.2 rfl, r2 b hb'⟩
            obtain ⟨_, hform⟩ := r3
            rcases hform with ⟨hn, _⟩ | ⟨g', cap', cur, hrv', _, hh, _⟩
            · rw [hn] at hb'; cases hb'
            · rw [hrv'] at hb'
              injection hb' with hb'
              subst hb'
              exact ⟨cur, _, hh⟩
          · obtain ⟨m1, m2, m3, m4⟩ := n2 b hb
            exact ⟨m1, m4, r, List.mem_singleton.2 rfl, m2⟩
      · cases hm
    · cases hm
  | sl _ => cases hm
  | ptr _ _ => cases hm
  | ep _ _ => cases hm
  | rp _ _ _ _ => cases hm
  | any => cases hm
theorem frL_sound (h : SimC B src c ow st a w) : ∀ {eks : List (Nat × Nat)} {ts ts' : List T} {vs : List Value} {ids : List Nat}, frL st eks ts = some (ts', ids) → All2 (RelT c w (okB src c st.ob)) vs ts → ids.Nodup → ∃ F, OwnL w B eks vs ts' F ∧ TakenF B ow w ids F := by
  intro eks
  induction eks with
  | nil =>
    intro ts ts' vs ids hm hv _
    cases ts with
    | nil => injection hm with hm; injection hm with e1 e2; subst e1 e2; cases hv; exact ⟨[], .nil, List.nodup_nil, by simp⟩
    | cons t ts => cases hm
  | cons ek eks ih =>
    intro ts ts' vs ids hm hv hn
    cases ts with
    | nil => cases hm
    | cons t ts =>
      unfold frL at hm
      split at hm
      · rename_i t' i1 ts'' i2 h1 h2
        injection hm with hm; injection hm with e1 e2; subst e1 e2
        cases hv with
        | cons hr hrs =>
          obtain ⟨F, f1, f2⟩ := frT_sound h h1 hr
          obtain ⟨G, g1, g2⟩ := ih h2 hrs (List.nodup_append.1 hn).2.1
          exact ⟨F ++ G, .cons f1 g1, f2.append g2 hn⟩
      · cases hm
theorem frVs_sound (h : SimC B src c ow st a w) : ∀ {ekss : List (List (Nat × Nat))} {xs xs' : List AV} {vs : List Value} {ids : List Nat}, frVs st ekss xs = some (xs', ids) → All2 (RelV c w (okB src c st.ob)) vs xs → ids.Nodup → ∃ F, OwnVs w B ekss vs xs' F ∧ TakenF B ow w ids F := by
  intro ekss
  induction ekss with
  | nil =>
    intro xs xs' vs ids hm hv _
    cases xs with
    | nil => injection hm with hm; injection hm with e1 e2; subst e1 e2; cases hv; exact ⟨[], .nil, List.nodup_nil, by simp⟩
    | cons x xs => cases hm
  | cons eks ekss ih =>
    intro xs xs' vs ids hm hv hn
    cases xs with
    | nil => cases hm
    | cons x xs =>
      unfold frVs at hm
      split at hm
      · rename_i x' i1 xs'' i2 h1 h2
        injection hm with hm; injection hm with e1 e2; subst e1 e2
        cases hv with
        | cons hr hrs =>
          obtain ⟨G, g1, g2⟩ := ih h2 hrs (List.nodup_append.1 hn).2.1
          cases x with
          | one t =>
            simp only [frV] at h1
            split at h1
            · rename_i ek
              obtain ⟨⟨t', j1⟩, ht, he⟩ := Option.map_eq_some_iff.1 h1
              injection he with e1 e2; subst e1 e2
              obtain ⟨F, f1, f2⟩ := frT_sound h ht hr
              exact ⟨F ++ G, .cons ⟨ek, rfl, f1⟩ g1, f2.append g2 hn⟩
            · cases h1
          | agg ts =>
            obtain ⟨⟨ts', j1⟩, ht, he⟩ := Option.map_eq_some_iff.1 h1
            injection he with e1 e2; subst e1 e2
            obtain ⟨us, rfl, ha⟩ := hr
            obtain ⟨F, f1, f2⟩ := frL_sound h ht ha (List.nodup_append.1 hn).1
            exact ⟨F ++ G, .cons ⟨us, rfl, f1⟩ g1, f2.append g2 hn⟩
      · cases hm
end
end Go.Ab
