/-
  Rules and small facts for walks that a program prints. Over any program. Conditions: none.
-/
import Derived.Test.YtdmiboplfgmgiaaAbM
import Derived.KernelRfl
namespace Go.Ab
open Go.RowKit

abbrev I (n : Int) : T := .lit (.int .i64 n)
abbrev U (n : Int) : T := .lit (.int .u8 n)
abbrev b1 (b : Bool) : T := .lit (.bool b)
abbrev S1 (s : ByteArray) : T := .lit (.string s)
def encI (n : Int) : List T := [I n]
def encU (n : Int) : List T := [U n]
def encS (s : ByteArray) : List T := [S1 s]
abbrev bs (l : Array UInt8) : ByteArray := ⟨l⟩
/-- The string of these bytes. -/
def toU8 (l : List Int) : List UInt8 := l.map fun n => UInt8.ofNat n.toNat
def strOf (l : List Int) : ByteArray := ⟨(toU8 l).toArray⟩
abbrev wr (n : Int) : Int := IntKind.i64.wrap n
/-- A value bound to a name. -/
def bnd {α β : Type} (a : α) (f : α → β) : β := f a
theorem bnd_eq {α β : Type} (a : α) (f : α → β) : bnd a f = f a := rfl

/-- These slots and objects, in this order. -/
def St.pick (st : St) (ss os : List Nat) : St :=
  ⟨ss.filterMap fun s => st.fr.find? fun e => e.1 == s, os.filterMap fun o => st.ob.find? fun e => e.1 == o⟩
/-- Objects renamed, one by one. -/
def St.renAll (st : St) : List (Nat × Nat) → Option St
  | [] => some st
  | (d, e) :: rn => if st.unused e = true then (st.rename d e).renAll rn else none
/-- A region's outcome with only these slots and objects, and objects renamed. -/
def pr (ss os : List Nat) (rn : List (Nat × Nat)) : Option (St × List Prop) → Option (St × List Prop)
  | some (st, obs) => ((st.pick ss os).renAll rn).map fun s => (s, obs)
  | none => none

section
variable {X : Ctx} {st : St} {Q : Exit → St → Prop} {cd : Code}

theorem aw_imp {Q1 : Exit → St → Prop} (h : aw X cd Q1 st) (hq : ∀ e s a w, Q1 e s → At X s a w → ∃ s', Q e s' ∧ At X s' a w) : aw X cd Q st :=
  fun a w hat => Code.wp_mono (fun e a' w' ⟨s, hs, hat'⟩ => hq e s a' w' hs hat') (h a w hat)
theorem At.keep {a : Act} {w : World} (h : At X st a w) (ss os : List Nat) : At X (st.keep ss os) a w := by
  obtain ⟨⟨c, ow, hsim⟩, hb, hn⟩ := h
  refine ⟨⟨c, ow, hsim.weak _ _ fun o x y _ hxy => ?_⟩, hb, hn⟩
  split at hxy
  · injection hxy with hxy; subst hxy; exact LO.le_refl _
  · cases hxy
theorem SimC.perm {B : Nat} {src : Nat → Prop} {c : Cx} {ow : Nat → Option Nat} {st st' : St} {a : Act} {w : World} (h : SimC B src c ow st a w) (hf : ∀ e ∈ st'.fr, e ∈ st.fr) (ho : ∀ e, e ∈ st'.ob ↔ e ∈ st.ob) : SimC B src c ow st' a w := by
  have hl : ∀ b, live c st'.ob b ↔ live c st.ob b := fun b => ⟨fun ⟨o, x, hm, hx⟩ => ⟨o, x, (ho _).1 hm, hx⟩, fun ⟨o, x, hm, hx⟩ => ⟨o, x, (ho _).2 hm, hx⟩⟩
  have hk : okB src c st'.ob = okB src c st.ob := by funext b; simp only [okB, hl b]
  refine ⟨h.defers, h.base, fun s g x hm => ?_, fun o x hm => ?_, fun o x y hx hy => h.uniq o x y ((ho _).1 hx) ((ho _).1 hy), h.rvs⟩
  · rw [hk]; exact h.fr s g x (hf _ hm)
  · rw [hk]; exact h.ob o x ((ho _).1 hm)
theorem At.pick {a : Act} {w : World} (h : At X st a w) (ss os : List Nat) : At X (st.pick ss os) a w := by
  obtain ⟨⟨c, ow, hsim⟩, hb, hn⟩ := h.keep ss os
  obtain ⟨⟨c0, ow0, hsim0⟩, _, _⟩ := h
  refine ⟨⟨c, ow, hsim.perm (fun e he => ?_) (fun e => ⟨fun he => ?_, fun he => ?_⟩)⟩, hb, hn⟩
  · obtain ⟨s, hs, hf⟩ := List.mem_filterMap.1 he
    have h1 := List.mem_of_find?_eq_some hf
    have h2 := List.find?_some hf
    simp at h2
    subst h2
    exact List.mem_filter.2 ⟨h1, by simpa using hs⟩
  · obtain ⟨s, hs, hf⟩ := List.mem_filterMap.1 he
    have h1 := List.mem_of_find?_eq_some hf
    have h2 := List.find?_some hf
    simp at h2
    subst h2
    exact List.mem_filterMap.2 ⟨e, h1, by simp [hs]⟩
  · obtain ⟨e', h1, h2⟩ := List.mem_filterMap.1 he
    by_cases hc : os.contains e'.1 = true
    · obtain ⟨o, x⟩ := e'
      simp only [hc, if_true, Option.map_some, Option.some.injEq] at h2
      subst h2
      refine List.mem_filterMap.2 ⟨o, by simpa using hc, ?_⟩
      cases hf : st.ob.find? fun e => e.1 == o with
      | none => have := List.find?_eq_none.1 hf _ h1; simp at this
      | some e'' =>
        have h3 := List.mem_of_find?_eq_some hf
        have h4 := List.find?_some hf
        simp at h4
        obtain ⟨o2, x2⟩ := e''
        simp at h4
        subst h4
        rw [hsim0.uniq _ _ _ h3 h1]
    · simp only [hc] at h2
      cases h2
theorem aw_pick {cd : Code} (ss os : List Nat) (st' : St) (he : st.pick ss os = st') (h : aw X cd Q st') : aw X cd Q st := by
  subst he
  exact fun a w hat => h a w (hat.pick ss os)
theorem At.renAll {a : Act} {w : World} : ∀ {st : St} (rn : List (Nat × Nat)) {st' : St}, At X st a w → st.renAll rn = some st' → At X st' a w
  | st, [], st', h, he => by injection he with he; subst he; exact h
  | st, (d, e) :: rn, st', h, he => by
    unfold St.renAll at he
    split at he
    · rename_i hu
      obtain ⟨⟨c, ow, hsim⟩, hb, hn⟩ := h
      exact At.renAll rn ⟨⟨_, _, hsim.rename hu⟩, hb, hn⟩ he
    · cases he
theorem aw_reg {id : Nat} {ops : Array Oper} (hs : List (Nat × Hint)) (ss os : List Nat) (rn : List (Nat × Nat)) (st' : St) (obs : List Prop) (h : pr ss os rn (absOps X.P X.n hs ops ops.toList st) = some (st', obs)) (ho : Ob obs) (hq : Q .normal st') : aw X (.region id ops false) Q st := by
  unfold pr at h
  split at h
  · rename_i st1 obs1 h1
    obtain ⟨st2, h2, h⟩ := Option.map_eq_some_iff.1 h
    injection h with e1 e2
    subst e1 e2
    refine aw_imp (aw_region (Q := fun e s => e = .normal ∧ s = st1) hs st1 obs1 h1 ho ⟨rfl, rfl⟩) ?_
    rintro e s a w ⟨rfl, rfl⟩ hat
    exact ⟨_, hq, (hat.pick ss os).renAll rn h2⟩
  · cases h
theorem aw_drw {id : Nat} {ops : Array Oper} (hs : List (Nat × Hint)) (order ss os : List Nat) (rn : List (Nat × Nat)) (st' : St) (obs : List Prop) (hm : X.P.follows .mixedOrders = true) (hns : Region.noSelect ops = true) (hl : order.length ≤ ops.size)
    (h : pr ss os rn (drawOps X.P X.n hs ops order (Array.replicate ops.size false) st) = some (st', obs)) (ho : Ob obs) (hq : Q .normal st') : aw X (.region id ops true) Q st := by
  unfold pr at h
  split at h
  · rename_i st1 obs1 h1
    obtain ⟨st2, h2, h⟩ := Option.map_eq_some_iff.1 h
    injection h with e1 e2
    subst e1 e2
    refine aw_imp (aw_draw (Q := fun e s => e = .normal ∧ s = st1) hs order st1 obs1 hm hns hl h1 ho ⟨rfl, rfl⟩) ?_
    rintro e s a w ⟨rfl, rfl⟩ hat
    exact ⟨_, hq, (hat.pick ss os).renAll rn h2⟩
  · cases h
/-- The state, spelt otherwise. -/
theorem aw_cast (st' : St) (he : st = st') (h : aw X cd Q st') : aw X cd Q st := he ▸ h
theorem q_cast {Q : Exit → St → Prop} {e : Exit} (st' : St) (he : st = st') (h : Q e st') : Q e st := he ▸ h
theorem aw_len (s : Nat) (es : List (List T)) (hl : st.look s = some (none, .val (.one (.sl es)))) (h : es.length ≤ maxLen → aw X cd Q st) : aw X cd Q st := by
  intro a w hat
  obtain ⟨⟨c, ow, hsim⟩, _, _⟩ := id hat
  obtain ⟨u, _, h1, _⟩ := hsim.fr s _ _ (look_mem hl)
  obtain ⟨F, hr, _⟩ := h1 rfl
  obtain ⟨_, _, _, hm⟩ := hr.len
  exact h hm a w hat
theorem RepL_bytes {w : World} : ∀ {l : List Int} {xs : List Value} {F : List Nat}, RepL w xs (l.map encU).flatten F → ∀ n ∈ l, 0 ≤ n ∧ n ≤ 255
  | [], _, _, _, n, hn => by cases hn
  | m :: l, xs, F, h, n, hn => by
    rw [List.map_cons, List.flatten_cons] at h
    cases h with
    | cons h1 h2 =>
      rcases List.mem_cons.1 hn with rfl | hn
      · cases h1 with
        | lit hp => simpa [plain, IntKind.min, IntKind.max, IntKind.signed, IntKind.bits] using hp
      · exact RepL_bytes (l := l) h2 n hn
/-- The bytes of a slice are bytes. -/
theorem aw_bytes (s : Nat) (l : List Int) (hl : st.look s = some (none, .val (.one (.sl (l.map encU))))) (h : (∀ n ∈ l, 0 ≤ n ∧ n ≤ 255) → aw X cd Q st) : aw X cd Q st := by
  intro a w hat
  obtain ⟨⟨c, ow, hsim⟩, _, _⟩ := id hat
  obtain ⟨u, _, h1, _⟩ := hsim.fr s _ _ (look_mem hl)
  obtain ⟨F, hr, _⟩ := h1 rfl
  refine h ?_ a w hat
  cases l with
  | nil => intro n hn; cases hn
  | cons m l =>
    cases hr with
    | cons _ _ _ _ _ _ _ _ hr => exact RepL_bytes hr
theorem aw_lenBox (i off : Nat) (cs : List T) (es : List (List T)) (hb : st.box i = some cs) (hc : cs[off]? = some (.sl es)) (h : es.length ≤ maxLen → aw X cd Q st) : aw X cd Q st := by
  intro a w hat
  obtain ⟨⟨c, ow, hsim⟩, _, _⟩ := id hat
  obtain ⟨_, _, vs, ty, _, ha⟩ := hsim.ob _ _ (box_mem hb)
  obtain ⟨u, _, F, hr, _⟩ := ha.get hc
  obtain ⟨_, _, _, hm⟩ := hr.len
  exact h hm a w hat
theorem aw_lenRow (r e k : Nat) (es : List (List T)) (deep : Bool) (hr : st.row r = some (e, k, es, deep)) (h : es.length ≤ maxLen → aw X cd Q st) : aw X cd Q st := by
  intro a w hat
  obtain ⟨⟨c, ow, hsim⟩, _, _⟩ := id hat
  obtain ⟨_, _, _, xs, F, r3, _⟩ := hsim.ob _ _ (row_mem hr)
  obtain ⟨_, _, _, hm⟩ := ownsRow_len r3
  exact h hm a w hat
theorem andThen_normal {K : St → Prop} {Q : Exit → St → Prop} (h : K st) : andThen K Q .normal st := h
/-- The end is this state and no other. -/
def only (st' : St) (e : Exit) (s : St) : Prop := e = .normal ∧ s = st'
theorem aw_join {Q : Exit → St → Prop} (st' : St) (h : aw X cd (only st') st) (hq : Q .normal st') : aw X cd Q st :=
  aw_imp h fun _ _ _ _ ⟨he, hs⟩ hat => ⟨st', he ▸ hq, hs ▸ hat⟩
theorem exit_thru {K : St → Prop} {Q : Exit → St → Prop} {id : Nat} (h : Q (.exit id) st) : andThen K Q (.exit id) st := h
theorem ret_thru {K : St → Prop} {Q : Exit → St → Prop} (h : Q .ret st) : andThen K Q .ret st := h
theorem exit_here {Q : Exit → St → Prop} (id : Nat) (h : Q .normal st) : inBlk id Q (.exit id) st := by simp only [inBlk, if_true]; exact h
theorem exit_over {Q : Exit → St → Prop} {id id' : Nat} (hn : id' ≠ id) (h : Q (.exit id') st) : inBlk id Q (.exit id') st := by simp only [inBlk]; rw [if_neg hn]; exact h
theorem ret_blk {Q : Exit → St → Prop} {id : Nat} (h : Q .ret st) : inBlk id Q .ret st := h
theorem blk_normal {Q : Exit → St → Prop} {id : Nat} (h : Q .normal st) : inBlk id Q .normal st := h
theorem ends_data {P : Program} {fn : Func} {e : Exit} {ys outs' outs : List AV} (he : e = .ret ∨ e = .normal) (hy : resOf P st fn.results.toList = some ys) (hs : sinkVs st ys = some outs') (ho : outs' = outs) : EndsWith P fn outs e st := ho ▸ ⟨he, ys, hy, hs⟩
theorem ends_fresh {P : Program} {fn : Func} {e : Exit} {ys outs' outs : List AV} {ekss : List (List (Nat × Nat))} {ids : List Nat} (he : e = .ret ∨ e = .normal) (hy : resOf P st fn.results.toList = some ys) (hs : frVs st ekss ys = some (outs', ids)) (hn : nodupB ids = true) (ho : outs' = outs) : EndsFresh P fn outs ekss e st :=
  ho ▸ ⟨he, ys, ids, hy, hs, hn⟩
end

theorem drop_cases {α : Type} (l : List α) (k : Nat) (hk : k ≤ l.length) : (l.drop k = [] ∧ k = l.length) ∨ ∃ x, l.drop k = x :: l.drop (k + 1) ∧ l[k]? = some x ∧ k < l.length := by
  rcases Nat.lt_or_ge k l.length with h | h
  · exact .inr ⟨l[k], List.drop_eq_getElem_cons h, List.getElem?_eq_getElem h, h⟩
  · exact .inl ⟨List.drop_eq_nil_of_le h, by omega⟩
theorem wrap_in {n : Int} (h : -9223372036854775808 ≤ n ∧ n ≤ 9223372036854775807) : IntKind.i64.wrap n = n := by rw [IntKind.wrap_i64]; omega
theorem wrap_succ {k : Nat} (h : k < maxLen) : IntKind.i64.wrap ((k : Int) + 1) = ((k + 1 : Nat) : Int) := by
  simp only [maxLen] at h
  rw [wrap_in (by omega)]
  omega
theorem el_map {α : Type} {enc : α → List T} {l : List α} {k : Nat} {x : α} (h : l[k]? = some x) : (l.map enc)[((k : Int)).toNat]? = some (enc x) := by simp [h]
theorem el_getD {α : Type} {enc : α → List T} {l : List α} {n : Int} {d : α} (h0 : 0 ≤ n) (h : n < l.length) : (l.map enc)[n.toNat]? = some (enc (l.getD n.toNat d)) := by
  have : n.toNat < l.length := by omega
  simp [this, List.getD]
theorem el_arr {α : Type} {l : List α} {f : α → T} {n : Int} {d : α} (h0 : 0 ≤ n) (h : n < l.length) : (l.map f)[n.toNat]? = some (f (l.getD n.toNat d)) := by
  have : n.toNat < l.length := by omega
  simp [this, List.getD]
theorem bytes_eq {l : List Int} (h : ∀ n ∈ l, 0 ≤ n ∧ n ≤ 255) : l.map encU = bytesT (toU8 l) := by
  induction l with
  | nil => rfl
  | cons n l ih =>
    have h1 := h n (List.mem_cons_self ..)
    have h2 : ((UInt8.ofNat n.toNat).toNat : Int) = n := by
      rw [UInt8.toNat_ofNat']
      have : n.toNat % 2 ^ 8 = n.toNat := Nat.mod_eq_of_lt (by omega)
      omega
    show encU n :: l.map encU = [T.lit (.int .u8 ((UInt8.ofNat n.toNat).toNat : Int))] :: bytesT (toU8 l)
    rw [h2, ih fun m hm => h m (List.mem_cons_of_mem _ hm)]
    rfl
theorem setEl_set {α : Type} {en : α → List T} {l : List α} {k i : Nat} {ts : List T} (x : α) (h : en x = ts) (hk : ts.length = k) : setEl k (l.map en) i 0 ts = (l.set i x).map en := by
  unfold setEl
  rw [if_pos ⟨rfl, hk⟩, List.map_set, h]
theorem nat_cases (n k : Nat) (hk : k ≤ n) : (n - k = 0 ∧ k = n) ∨ (n - k = (n - (k + 1)) + 1 ∧ k < n) := by omega
theorem lt_true {l : Nat} {k : Nat} (h : k < l) : decide ((k : Int) < (l : Int)) = true := by simp; omega
theorem lt_false {l : Nat} : decide ((l : Int) < (l : Int)) = false := by simp
end Go.Ab
