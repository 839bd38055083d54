/-
  A frame brought to a shape: what varies is taken out and put in again. Over any program. Conditions: none.
-/
import Derived.Test.YtdmiboplfgmgiaaWL
set_option linter.unusedVariables false
set_option linter.unusedSectionVars false
namespace Go.V
open Go.Ab Go.RowKit

/-- Whatever is as x says is as x' says. -/
def C.imp (x' x : C) : Prop := ∀ (c : Cx) (ow : Nat → Option Nat) (w : World) (ok : Nat → Prop) (v : Value), RelC c ow w ok v x → RelC c ow w ok v x'
def S.imp (x' x : S) : Prop := ∀ (c : Cx) (ow : Nat → Option Nat) (w : World) (ok : Nat → Prop) (v : Value), RelS c ow w ok v x → RelS c ow w ok v x'
inductive O.imp : O → O → Prop
  | refl (x : O) : O.imp x x
  | box {cs' cs : List C} (h : All2 C.imp cs' cs) : O.imp (.box cs') (.box cs)
  | row {e k : Nat} {t : Ty} {l : List (den t)} {deep' deep : Bool} (h : deep' = true → deep = true) : O.imp (.row e k t l deep') (.row e k t l deep)

section
variable {M src : Nat → Prop} {c : Cx} {ow : Nat → Option Nat} {f g : F} {a : Act} {w : World}
theorem O.imp.blk {x y : O} (h : x.imp y) {o b : Nat} (hb : x.blk c ow o b) : y.blk c ow o b := by
  cases h with
  | refl => exact hb
  | box _ => exact hb
  | row _ => exact hb
theorem All2.imp {ok : Nat → Prop} {vs : List Value} {cs' cs : List C} (hv : All2 (RelC c ow w ok) vs cs) (h : All2 C.imp cs' cs) : All2 (RelC c ow w ok) vs cs' := by
  induction h generalizing vs with
  | nil => cases hv; exact .nil
  | cons h hs ih => cases hv with | cons h1 h2 => exact .cons (h _ _ _ _ _ h1) (ih h2)
theorem SimC.imp (h : SimC M src c ow f a w) (hf : ∀ s n x, (s, n, x) ∈ g.fr → ∃ m y, (s, m, y) ∈ f.fr ∧ x.imp y) (ho : ∀ o n x, (o, n, x) ∈ g.ob → ∃ m y, (o, m, y) ∈ f.ob ∧ x.imp y)
    (hu : ∀ o n x m y, (o, n, x) ∈ g.ob → (o, m, y) ∈ g.ob → x = y) : SimC M src c ow g a w := by
  have hlive : ∀ b, live c ow g.ob b → live c ow f.ob b := by
    rintro b ⟨o, n, y, hm, hy⟩
    obtain ⟨m, x, hx, hle⟩ := ho o n y hm
    exact ⟨o, m, x, hx, hle.blk hy⟩
  have kg : ∀ b, b < w.heap.size → okB src c ow f.ob b → okB src c ow g.ob b := fun b _ hb => ⟨hb.1, fun hl => hb.2 (hlive b hl)⟩
  refine ⟨h.defers, fun s n x hm => ?_, fun o n y hm => ?_, hu, h.rvs⟩
  · obtain ⟨m, y, hm', hi⟩ := hf s n x hm
    obtain ⟨v, hv, h1⟩ := h.fr s m y hm'
    exact ⟨v, hv, hi _ _ _ _ _ (h1.good kg)⟩
  · obtain ⟨m, x, hx, hle⟩ := ho o n y hm
    have hok := h.ob o m x hx
    have hbx : ∀ cs cs', BoxOk M c ow w (okB src c ow f.ob) o cs → All2 C.imp cs' cs → BoxOk M c ow w (okB src c ow g.ob) o cs' := by
      rintro cs cs' ⟨b1, b2, vs, ty, b3, b4⟩ hall
      exact ⟨b1, b2, vs, ty, b3, All2.imp (b4.mono fun u t _ hr => RelC.good hr kg) hall⟩
    have hrw : ∀ e k t l deep deep', RowOk M c ow w (okB src c ow f.ob) o e k t l deep → (deep' = true → deep = true) → RowOk M c ow w (okB src c ow g.ob) o e k t l deep' := by
      rintro e k t l deep deep' ⟨r0, r1, r2, xs, G, r3, r4, r5, r6⟩ hd
      exact ⟨r0, r1, r2, xs, G, r3, r4, fun b hb => kg b (r4.lt b hb) (r5 b hb), fun hd' => r6 (hd hd')⟩
    cases hle with
    | refl =>
      cases y with
      | box cs =>
        refine hbx cs cs hok ?_
        clear hok hm hx
        induction cs with
        | nil => exact .nil
        | cons t ts ih => exact .cons (fun _ _ _ _ _ h => h) ih
      | row e k t l deep => exact hrw e k t l deep deep hok id
      | win k t l => exact hok
    | box hall => exact hbx _ _ hok hall
    | row hd => exact hrw _ _ _ _ _ _ hok hd
end

section
variable {f g : F}
theorem prjC {ct : CT} {x : C} {tvs : List TV} (h : ct.prj x = some tvs) (rest : List TV) : ∃ x', ct.inj (tvs ++ rest) = some (x', rest) ∧ C.imp x' x := by
  unfold CT.prj at h
  split at h
  · rename_i t t' y
    obtain ⟨z, hz, rfl⟩ := Option.map_eq_some_iff.1 h
    obtain ⟨rfl, rfl⟩ := castTy_some hz
    exact ⟨.v t' y, by show (castTy t' t' y).map _ = _; rw [castTy_self]; rfl, fun _ _ _ _ _ h => h⟩
  · rename_i t
    injection h with h
    subst h
    refine ⟨.v (.sl t) [], by show (castTy (.sl t) (.sl t) []).map _ = _; rw [castTy_self]; rfl, fun c ow w ok v hv => ?_⟩
    have hv : v = .slice none 0 0 := hv
    subst hv
    exact ⟨[], .nil (Nat.zero_le _), by simp⟩
  · injection h with h; subst h; exact ⟨.nil, rfl, fun _ _ _ _ _ h => h⟩
  · split at h
    · rename_i r r' he; subst he; injection h with h; subst h; exact ⟨.row r, rfl, fun _ _ _ _ _ h => h⟩
    · cases h
  · split at h
    · rename_i o off o' off' he; obtain ⟨rfl, rfl⟩ := he; injection h with h; subst h; exact ⟨.ptr o off, rfl, fun _ _ _ _ _ h => h⟩
    · cases h
  · cases h
theorem prjLs : ∀ {cts : List CT} {cs : List C} {tvs : List TV}, prjL cts cs = some tvs → ∀ rest, ∃ cs', injL cts (tvs ++ rest) = some (cs', rest) ∧ All2 C.imp cs' cs
  | [], [], tvs, h, rest => by injection h with h; subst h; exact ⟨[], rfl, .nil⟩
  | [], _ :: _, tvs, h, rest => by cases h
  | _ :: _, [], tvs, h, rest => by cases h
  | ct :: cts, x :: xs, tvs, h, rest => by
    simp only [prjL] at h
    split at h
    · rename_i a b h1 h2
      injection h with h
      subst h
      obtain ⟨ds, g1, g2⟩ := prjLs h2 rest
      obtain ⟨d, g3, g4⟩ := prjC h1 (b ++ rest)
      refine ⟨d :: ds, ?_, .cons g4 g2⟩
      rw [List.append_assoc]
      simp [injL, g3, g1]
    · cases h
theorem find_fst {α : Type} {l : List (Nat × α)} {s : Nat} {e : Nat × α} (h : l.find? (fun e => e.1 == s) = some e) : e ∈ l ∧ e.1 = s := ⟨List.mem_of_find?_eq_some h, by simpa using List.find?_some h⟩
theorem nodup_fst {α : Type} : ∀ {l : List (Nat × α)}, (l.map (·.1)).Nodup → ∀ {x y : Nat × α}, x ∈ l → y ∈ l → x.1 = y.1 → x = y
  | [], _, x, y, hx, _, _ => by cases hx
  | z :: l, hn, x, y, hx, hy, he => by
    rw [List.map_cons, List.nodup_cons] at hn
    rcases List.mem_cons.1 hx with hx1 | hx1
    · rcases List.mem_cons.1 hy with hy1 | hy1
      · rw [hx1, hy1]
      · exact absurd (List.mem_map.2 ⟨y, hy1, by rw [← he, hx1]⟩) hn.1
    · rcases List.mem_cons.1 hy with hy1 | hy1
      · exact absurd (List.mem_map.2 ⟨x, hx1, by rw [he, hy1]⟩) hn.1
      · exact nodup_fst hn.2 hx1 hy1 he
theorem wf_iff (h : f.wf = true) : (f.fr.map (·.1)).Nodup ∧ (f.ob.map (·.1)).Nodup := by
  simp only [F.wf, Bool.and_eq_true] at h
  exact ⟨nodupB_sound h.1, nodupB_sound h.2.1⟩

theorem prjFrs (hx : Ext f g) (hw : f.wf = true) : ∀ {hs : List (Nat × ST)} {tvs : List TV}, prjFr f g hs = some tvs → ∀ rest, ∃ fr, injFr f hs (tvs ++ rest) = some (fr, rest) ∧ ∀ s n x, (s, n, x) ∈ fr → (∃ m y, (s, m, y) ∈ g.fr ∧ x.imp y) ∧ (n < f.ctr → (s, n, x) ∈ f.fr)
  | [], tvs, h, rest => by injection h with h; subst h; exact ⟨[], rfl, fun s n x hm => by cases hm⟩
  | (s, st) :: hs, tvs, h, rest => by
    simp only [prjFr] at h
    split at h
    · rename_i s' n x ys hg hr
      obtain ⟨hm, rfl⟩ := find_fst hg
      obtain ⟨fr, i1, i2⟩ := prjFrs hx hw hr rest
      split at h
      · split at h
        · rename_i s2 m y hf
          obtain ⟨hm2, e2⟩ := find_fst hf
          have e2 : s2 = s' := e2
          subst e2
          split at h
          · rename_i hc
            injection h with h
            subst h
            obtain ⟨rfl, hlt⟩ := hc
            have := nodup_fst (wf_iff hw).1 hm2 (hx.fr _ _ _ hm hlt) rfl
            refine ⟨(s2, m, y) :: fr, by simp only [injFr]; rw [hf]; simp only [i1], fun s n x hmem => ?_⟩
            rcases List.mem_cons.1 hmem with he | hmem
            · rw [he]
              injection he with e1 he
              injection he with e2 e3
              subst e1 e3
              refine ⟨⟨m, x, by rw [this]; exact hm, fun _ _ _ _ _ h => h⟩, fun _ => hm2⟩
            · exact i2 s n x hmem
          · cases h
        · cases h
      · rename_i ct y
        obtain ⟨tv, htv, rfl⟩ := Option.map_eq_some_iff.1 h
        obtain ⟨x', j1, j2⟩ := prjC htv (ys ++ rest)
        refine ⟨(s', f.ctr, .val (.one x')) :: fr, by rw [List.append_assoc]; simp only [injFr]; rw [j1]; simp only [i1], fun s n x hmem => ?_⟩
        rcases List.mem_cons.1 hmem with he | hmem
        · injection he with e1 he
          injection he with e2 e3
          subst e1 e2 e3
          exact ⟨⟨n, _, hm, fun c ow w ok v hv => j2 c ow w ok v hv⟩, fun hlt => by omega⟩
        · exact i2 s n x hmem
      · rename_i cts zs
        obtain ⟨tv, htv, rfl⟩ := Option.map_eq_some_iff.1 h
        obtain ⟨xs', j1, j2⟩ := prjLs htv (ys ++ rest)
        refine ⟨(s', f.ctr, .val (.agg xs')) :: fr, by rw [List.append_assoc]; simp only [injFr]; rw [j1]; simp only [i1], fun s n x hmem => ?_⟩
        rcases List.mem_cons.1 hmem with he | hmem
        · injection he with e1 he
          injection he with e2 e3
          subst e1 e2 e3
          exact ⟨⟨n, _, hm, fun c ow w ok v hv => by obtain ⟨vs, hv, ha⟩ := hv; exact ⟨vs, hv, ha.imp j2⟩⟩, fun hlt => by omega⟩
        · exact i2 s n x hmem
      · cases h
    · cases h

theorem prjObs (hx : Ext f g) (hw : f.wf = true) : ∀ {hs : List (Nat × OT)} {tvs : List TV}, prjOb f g hs = some tvs → ∀ rest, ∃ ob, injOb f hs (tvs ++ rest) = some (ob, rest) ∧ ob.map (·.1) = hs.map (·.1) ∧ ∀ o n x, (o, n, x) ∈ ob → (∃ m y, (o, m, y) ∈ g.ob ∧ x.imp y) ∧ (n < f.ctr → (o, n, x) ∈ f.ob)
  | [], tvs, h, rest => by injection h with h; subst h; exact ⟨[], rfl, rfl, fun s n x hm => by cases hm⟩
  | (s, st) :: hs, tvs, h, rest => by
    simp only [prjOb] at h
    split at h
    · rename_i s' n x ys hg hr
      obtain ⟨hm, rfl⟩ := find_fst hg
      obtain ⟨ob, i1, i0, i2⟩ := prjObs hx hw hr rest
      split at h
      · split at h
        · rename_i s2 m y hf
          obtain ⟨hm2, e2⟩ := find_fst hf
          have e2 : s2 = s' := e2
          subst e2
          split at h
          · rename_i hc
            injection h with h
            subst h
            obtain ⟨rfl, hlt⟩ := hc
            have := nodup_fst (wf_iff hw).2 hm2 (hx.ob _ _ _ hm hlt) rfl
            refine ⟨(s2, m, y) :: ob, by simp only [injOb]; rw [hf]; simp only [i1], by simp [i0], fun s n x hmem => ?_⟩
            rcases List.mem_cons.1 hmem with he | hmem
            · rw [he]
              injection he with e1 he
              injection he with e2 e3
              subst e1 e3
              refine ⟨⟨m, x, by rw [this]; exact hm, .refl _⟩, fun _ => hm2⟩
            · exact i2 s n x hmem
          · cases h
        · cases h
      · rename_i cts zs
        obtain ⟨tv, htv, rfl⟩ := Option.map_eq_some_iff.1 h
        obtain ⟨xs', j1, j2⟩ := prjLs htv (ys ++ rest)
        refine ⟨(s', f.ctr, .box xs') :: ob, by rw [List.append_assoc]; simp only [injOb]; rw [j1]; simp only [i1], by simp [i0], fun s n x hmem => ?_⟩
        rcases List.mem_cons.1 hmem with he | hmem
        · injection he with e1 he
          injection he with e2 e3
          subst e1 e2 e3
          exact ⟨⟨n, _, hm, .box j2⟩, fun hlt => by omega⟩
        · exact i2 s n x hmem
      · rename_i e k t deep e' k' t' l deep'
        split at h
        · rename_i hc
          obtain ⟨rfl, rfl, rfl, hd⟩ := hc
          injection h with h
          subst h
          refine ⟨(s', f.ctr, .row e k t l deep) :: ob, by show (match castTy (.sl t) (.sl t) l, injOb f hs (ys ++ rest) with | some l, some (r, zs) => some ((s', f.ctr, O.row e k t l deep) :: r, zs) | _, _ => none) = _; rw [castTy_self, i1], by simp [i0], fun s n x hmem => ?_⟩
          rcases List.mem_cons.1 hmem with he | hmem
          · injection he with e1 he
            injection he with e2 e3
            subst e1 e2 e3
            exact ⟨⟨n, _, hm, .row hd⟩, fun hlt => by omega⟩
          · exact i2 s n x hmem
        · cases h
      · rename_i k t k' t' l
        split at h
        · rename_i hc
          obtain ⟨rfl, rfl⟩ := hc
          injection h with h
          subst h
          refine ⟨(s', f.ctr, .win k t l) :: ob, by show (match castTy (.sl t) (.sl t) l, injOb f hs (ys ++ rest) with | some l, some (r, zs) => some ((s', f.ctr, O.win k t l) :: r, zs) | _, _ => none) = _; rw [castTy_self, i1], by simp [i0], fun s n x hmem => ?_⟩
          rcases List.mem_cons.1 hmem with he | hmem
          · injection he with e1 he
            injection he with e2 e3
            subst e1 e2 e3
            exact ⟨⟨n, _, hm, .refl _⟩, fun hlt => by omega⟩
          · exact i2 s n x hmem
        · cases h
      · cases h
    · cases h
end

section
variable {X : Ctx} {f g : F}
/-- What was brought to a shape is as the shape says. -/
theorem fit_sound {h : Sh} {x : denV h.tys} (hx : Ext f g) (hw : f.wf = true) (hh : h.wf = true) (hf : f.fit g h = some x) : ∃ k, f.inj h x = some k ∧ Ext f k ∧ ∀ a w, At X g a w → At X k a w := by
  unfold F.fit at hf
  split at hf
  · rename_i g' hg'
    obtain ⟨h1, h2⟩ := wks_sound (X := X) hg'
    have hx' := hx.trans h1
    unfold F.prj at hf
    split at hf
    · rename_i xs ys hxs hys
      obtain ⟨fr, j1, j2⟩ := prjFrs hx' hw hxs ys
      obtain ⟨ob, k1, k0, k2⟩ := prjObs hx' hw hys []
      rw [List.append_nil] at k1
      refine ⟨⟨f.ctr + 1, fr, ob⟩, ?_, ⟨Nat.le_succ _, fun s n y hm hn => (j2 s n y hm).2 hn, fun s n y hm hn => (k2 s n y hm).2 hn⟩, fun a w hat => ?_⟩
      · unfold F.inj
        rw [ofTVs_to hf, j1]
        simp only [k1]
      · obtain ⟨⟨cx, ow, hs, hpin⟩, hb, hn⟩ := h2 a w hat
        refine ⟨⟨cx, ow, hs.imp (fun s n y hm => (j2 s n y hm).1) (fun s n y hm => (k2 s n y hm).1) (fun o n y m z hy hz => ?_), hpin⟩, hb, hn⟩
        have hnd : (ob.map (·.1)).Nodup := by rw [k0]; exact nodupB_sound hh
        have := nodup_fst hnd hy hz rfl
        injection this with _ this
        injection this
    · cases hf
  · cases hf
end
end Go.V
