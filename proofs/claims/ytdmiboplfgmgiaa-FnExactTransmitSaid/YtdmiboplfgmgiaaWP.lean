/-
  From the readings of a statement's arguments to typed data, and from a contract to the statement's ending. Over any program. Conditions: none.
-/
import Derived.Test.YtdmiboplfgmgiaaWO
import Derived.ProofKit
import Derived.OpenShut
import Derived.Carry
set_option linter.unusedVariables false
namespace Go.V
open Go.Ab Go.RowKit Go.ChangeShapes Go.WideShapes Go.ChangeAt

/-- Data that memory can hold. -/
def Wf : (t : Ty) → den t → Prop
  | .int k, x => k.min ≤ x ∧ x ≤ k.max
  | .bool, _ => True
  | .str, x => x.size ≤ maxLen
  | .sl t, l => l.length ≤ maxLen ∧ ∀ e ∈ l, Wf t e
  | .pair a b, x => Wf a x.1 ∧ Wf b x.2

theorem repL_el {w : World} {t : Ty} {Q : den t → Prop} (hq : ∀ (e : den t) (ys : List Value) (H : List Nat), RepL w ys (cells t e) H → Q e) : ∀ (l : List (den t)) {xs : List Value} {G : List Nat}, RepL w xs (l.map (cells t)).flatten G → ∀ e ∈ l, Q e
  | [], _, _, _, e, he => by cases he
  | y :: l, xs, G, h, e, he => by
    rw [List.map_cons, List.flatten_cons] at h
    obtain ⟨G1, G2, h1, h2, h3⟩ := h.take (cells t y).length
    rw [List.take_left] at h1
    rw [List.drop_left] at h2
    rcases List.mem_cons.1 he with rfl | he
    · exact hq _ _ _ h1
    · exact repL_el hq l h2 e he
theorem wf_of_rep {w : World} : ∀ (t : Ty) (x : den t) {xs : List Value} {F : List Nat}, RepL w xs (cells t x) F → Wf t x
  | .int k, x, xs, F, h => by
    cases h with
    | cons h _ => cases h with | lit h => simpa [plain, Wf] using h
  | .bool, x, xs, F, h => trivial
  | .str, x, xs, F, h => by
    cases h with
    | cons h _ => cases h with | lit h => simpa [plain, Wf] using h
  | .sl t, l, xs, F, h => by
    cases h with
    | cons h _ =>
      refine ⟨by obtain ⟨_, _, _, h1⟩ := Rep.len h; simpa using h1, ?_⟩
      generalize hes : List.map (cells t) l = es at h
      cases h with
      | nil _ => have : l = [] := by simpa using hes
                 subst this; simp
      | cons hn h0 hk0 hk hc hm hx hcell hr =>
        subst hes
        exact repL_el (fun e ys H h => wf_of_rep t e h) l hr
  | .pair a b, x, xs, F, h => by
    simp only [cells] at h
    obtain ⟨G1, G2, h1, h2, h3⟩ := h.take (cells a x.1).length
    rw [List.take_left] at h1
    rw [List.drop_left] at h2
    exact ⟨wf_of_rep a x.1 h1, wf_of_rep b x.2 h2⟩

/-- What reads as type t holds data of the type ty. -/
def Dec (P : Program) (t : TypeId) (ty : Ty) : Prop :=
  ∀ (H : Type) (enc : TypeId × Value → H) (w : World) (base : Nat) (spare : Nat → Bool) (held : Bool) (fuel : Nat) (cs : List Value) (x : DataW H × List MemPlace), DataW.trod enc P w base spare held fuel t cs = some x → ∃ (a : den ty) (F : List Nat), RepL w cs (cells ty a) F

section
variable {P : Program} {t e : TypeId}
theorem dec_int {k : IntKind} (ht : P.underlying t = some (.int k)) : Dec P t (.int k) := by
  intro H enc w base spare held fuel cs x h
  obtain ⟨n, rfl, _, hw⟩ := DataW.trod_int ht h
  exact ⟨n, _, .cons (.lit hw) .nil⟩
theorem dec_bool (ht : P.underlying t = some .bool) : Dec P t .bool := by
  intro H enc w base spare held fuel cs x h
  obtain ⟨b, rfl, _⟩ := DataW.trod_bool ht h
  exact ⟨b, _, .cons (.lit rfl) .nil⟩
theorem dec_str (ht : P.underlying t = some .string) : Dec P t .str := by
  intro H enc w base spare held fuel cs x h
  obtain ⟨s, rfl, _, hs⟩ := DataW.trod_string ht h
  exact ⟨s, _, .cons (.lit (by simpa [plain] using hs)) .nil⟩

theorem dec_rows {ty : Ty} {w : World} {k : Nat} {b off : Nat} : ∀ (n i : Nat), (∀ j, i ≤ j → j < i + n → ∃ (us : List Value) (a : den ty) (F : List Nat), us.length = k ∧ (∀ m, m < k → w.cell? ⟨b, off + (j * k + m), none⟩ = us[m]?) ∧ RepL w us (cells ty a) F) →
    ∃ (l : List (den ty)) (xs : List Value) (F : List Nat), l.length = n ∧ xs.length = n * k ∧ (∀ j u, xs[j]? = some u → w.cell? ⟨b, off + (i * k + j), none⟩ = some u) ∧ RepL w xs (l.map (cells ty)).flatten F := by
  intro n
  induction n with
  | zero => intro i _; exact ⟨[], [], [], rfl, by simp, by simp, .nil⟩
  | succ n ih =>
    intro i h
    obtain ⟨us, a, F, h1, h2, h3⟩ := h i (Nat.le_refl _) (by omega)
    obtain ⟨l, xs, G, g1, g2, g3, g4⟩ := ih (i + 1) fun j hj hj' => h j (by omega) (by omega)
    refine ⟨a :: l, us ++ xs, F ++ G, by simp [g1], by simp [h1, g2, Nat.succ_mul, Nat.add_comm], fun j u hu => ?_, by simpa using h3.append g4⟩
    by_cases hj : j < k
    · rw [List.getElem?_append_left (by omega)] at hu
      rw [h2 j hj]; exact hu
    · rw [List.getElem?_append_right (by omega), h1] at hu
      have := g3 (j - k) u hu
      rw [Nat.succ_mul] at this
      rw [show i * k + j = i * k + k + (j - k) by omega]
      exact this

theorem dec_slice {ty : Ty} (ht : P.underlying t = some (.slice e)) (hk : P.cellsOf e = tyLen ty) (hd : Dec P e ty) : Dec P t (.sl ty) := by
  have h0 : 0 < tyLen ty := tyLen_pos ty
  intro H enc w base spare held fuel cs x h
  rcases DataW.trod_slice ht h with ⟨rfl, _⟩ | ⟨a, len, cap, elems, rest, n, _, rfl, _, hb, hl, hm, hel, hels, _, _⟩
  · exact ⟨[], [], by simpa [cells] using RepL.cons (F := []) (.nil (Nat.zero_le _)) .nil⟩
  · rw [hk] at hels
    rcases Nat.eq_zero_or_pos len with rfl | hpos
    · exact ⟨[], [], by simpa [cells] using RepL.cons (F := []) (.nil hm) .nil⟩
    · have each : ∀ j, j < len → ∃ (us : List Value) (x : den ty) (F : List Nat), us.length = tyLen ty ∧ (∀ m, m < tyLen ty → w.cell? ((a.add (j * tyLen ty)).add m) = us[m]?) ∧ RepL w us (cells ty x) F := by
        intro j hj
        have h1 := hels j hj
        have h2 : elems[j]? = some elems[j] := List.getElem?_eq_getElem (by omega)
        rw [h2, Option.bind_eq_some_iff] at h1
        obtain ⟨us, hus, htr⟩ := h1
        obtain ⟨_, hul, huc⟩ := World.cells?_some hus
        obtain ⟨x, F, hr⟩ := hd H enc w base spare held n us _ htr
        exact ⟨us, x, F, hul, huc, hr⟩
      have hsp : a.spot = none := by
        obtain ⟨us, _, _, h1, h2, _⟩ := each 0 hpos
        have h3 := h2 0 h0
        have h4 : us[0]? = some us[0] := List.getElem?_eq_getElem (by omega)
        rw [h4] at h3
        unfold World.cell? at h3
        split at h3
        · split at h3
          · cases h3
          · rename_i hs
            cases ha : a.spot with
            | none => rfl
            | some z => simp [Addr.add, ha] at hs
        · cases h3
      obtain ⟨ab, ao, as⟩ := a
      simp only at hsp
      subst hsp
      obtain ⟨l, xs, F, g1, g2, g3, g4⟩ := dec_rows (ty := ty) (w := w) (b := ab) (off := ao) len 0 fun j _ hj => by
        obtain ⟨us, x, F, h1, h2, h3⟩ := each j (by omega)
        refine ⟨us, x, F, h1, fun m hm => ?_, h3⟩
        rw [← h2 m hm]
        simp only [add_eq, Nat.add_assoc]
      refine ⟨l, ab :: F ++ [], .cons (.cons (k := tyLen ty) (by simpa using g1) hpos h0 (fun e he => ?_) hl hm g2 (fun j u hu => ?_) g4) .nil⟩
      · obtain ⟨y, _, rfl⟩ := List.mem_map.1 he
        exact cells_len ty y
      · have := g3 j u hu
        simpa using this

/-- Fields of a struct, one after the other. -/
def Decs (P : Program) (fs : List Field) (off : Nat) (ty : Ty) : Prop :=
  ∀ (H : Type) (enc : TypeId × Value → H) (w : World) (base : Nat) (spare : Nat → Bool) (held : Bool) (n : Nat) (cs : List Value), cs.length = off + tyLen ty → (∀ f ∈ fs, (DataW.trod enc P w base spare held n f.type ((cs.drop f.offset).take (P.cellsOf f.type))).isSome = true) → ∃ (a : den ty) (F : List Nat), RepL w (cs.drop off) (cells ty a) F
theorem decs_one {f : Field} {ty : Ty} {off : Nat} (hd : Dec P f.type ty) (ho : f.offset = off) (hk : P.cellsOf f.type = tyLen ty) : Decs P [f] off ty := by
  intro H enc w base spare held n cs hl hf
  obtain ⟨x, hx⟩ := Option.isSome_iff_exists.1 (hf f (List.mem_singleton.2 rfl))
  obtain ⟨a, F, hr⟩ := hd H enc w base spare held n _ x hx
  rw [ho, hk, List.take_of_length_le (by simp; omega)] at hr
  exact ⟨a, F, hr⟩
theorem decs_cons {f : Field} {fs : List Field} {ta tb : Ty} {off : Nat} (hd : Dec P f.type ta) (ho : f.offset = off) (hk : P.cellsOf f.type = tyLen ta) (hs : Decs P fs (off + tyLen ta) tb) : Decs P (f :: fs) off (.pair ta tb) := by
  intro H enc w base spare held n cs hl hf
  obtain ⟨x, hx⟩ := Option.isSome_iff_exists.1 (hf f (List.mem_cons_self ..))
  obtain ⟨a, F, hr⟩ := hd H enc w base spare held n _ x hx
  rw [ho, hk] at hr
  obtain ⟨b, G, hg⟩ := hs H enc w base spare held n cs (by simp only [tyLen] at hl; omega) fun f' hf' => hf f' (List.mem_cons_of_mem _ hf')
  refine ⟨(a, b), F ++ G, ?_⟩
  have := hr.append hg
  rw [← List.drop_drop, List.take_append_drop] at this
  exact this
theorem dec_struct {fs : Array Field} {ty : Ty} (ht : P.underlying t = some (.struct fs)) (hk : P.cellsOf t = tyLen ty) (hs : Decs P fs.toList 0 ty) : Dec P t ty := by
  intro H enc w base spare held fuel cs x h
  obtain ⟨xs, n, _, _, hl, hn, hf⟩ := DataW.trod_struct ht h
  obtain ⟨a, F, hr⟩ := hs H enc w base spare held n cs (by rw [hl, hk]; omega) fun f hf' => by
    obtain ⟨i, hi⟩ := List.getElem?_of_mem hf'
    have hi' : fs[i]? = some f := by simpa using hi
    rw [hf i f hi']
    have hlt : i < xs.length := by
      rw [hn]
      exact (Array.getElem?_eq_some_iff.1 hi').1
    rw [List.getElem?_eq_getElem hlt]; rfl
  exact ⟨a, F, by simpa using hr⟩

def decTys (P : Program) (g : TypeId → Option Ty) : Nat → List Field → Option Ty
  | _, [] => none
  | off, f :: fs => match g f.type with
    | some a => if f.offset = off ∧ P.cellsOf f.type = tyLen a then (match fs with
      | [] => some a
      | _ :: _ => (decTys P g (off + tyLen a) fs).map (Ty.pair a)) else none
    | none => none
/-- The type of data of a Go type, with all that a reading of it leans on. -/
def decTy (P : Program) : Nat → TypeId → Option Ty
  | 0 => fun _ => none
  | n + 1 => fun t =>
    match P.underlying t with
    | some (.int k) => some (.int k)
    | some .bool => some .bool
    | some .string => some .str
    | some (.slice e) => match decTy P n e with
      | some ty => if P.cellsOf e = tyLen ty then some (.sl ty) else none
      | none => none
    | some (.struct fs) => match decTys P (decTy P n) 0 fs.toList with
      | some ty => if P.cellsOf t = tyLen ty then some ty else none
      | none => none
    | _ => none
theorem decTy_sound : ∀ (n : Nat) {t : TypeId} {ty : Ty}, decTy P n t = some ty → Dec P t ty
  | 0, t, ty, h => by simp [decTy] at h
  | n + 1, t, ty, h => by
    have fields : ∀ (fs : List Field) (off : Nat) (ty : Ty), decTys P (decTy P n) off fs = some ty → Decs P fs off ty := by
      intro fs
      induction fs with
      | nil => intro off ty h; simp [decTys] at h
      | cons f fs ih =>
        intro off ty h
        cases fs with
        | nil =>
          simp only [decTys] at h
          split at h
          · rename_i a ha
            split at h
            · rename_i hc
              injection h with h
              subst h
              exact decs_one (decTy_sound n ha) hc.1 hc.2
            · cases h
          · cases h
        | cons g fs =>
          simp only [decTys] at h
          split at h
          · rename_i a ha
            split at h
            · rename_i hc
              obtain ⟨b, hb, rfl⟩ := Option.map_eq_some_iff.1 h
              exact decs_cons (decTy_sound n ha) hc.1 hc.2 (ih _ _ hb)
            · cases h
          · cases h
    unfold decTy at h
    split at h
    · rename_i ht; injection h with h; subst h; exact dec_int ht
    · rename_i ht; injection h with h; subst h; exact dec_bool ht
    · rename_i ht; injection h with h; subst h; exact dec_str ht
    · rename_i ht
      split at h
      · rename_i ty' hty
        split at h
        · rename_i hk; injection h with h; subst h; exact dec_slice ht hk (decTy_sound n hty)
        · cases h
      · cases h
    · rename_i ht
      split at h
      · rename_i ty' hty
        split at h
        · rename_i hk; injection h with h; subst h; exact dec_struct ht hk (fields _ _ _ hty)
        · cases h
      · cases h
    · cases h

/-! ### arguments -/
def noCx : Cx := ⟨fun _ => 0, fun _ => .slice none 0 0⟩
/-- A value holds data, as an argument. -/
def ArgOk (w : World) (v : Value) (x : A) : Prop := RelA noCx (fun _ => none) w (fun _ => True) v x
theorem arg_one {ty : Ty} {H : Type} {enc : TypeId × Value → H} {w : World} {v : Value} {d : DataW H} {ps : List MemPlace} (hd : Dec P t ty) (hag : v.cells = #[v]) (h : DataW.Trod enc P w 0 (fun _ => true) true t v d ps) (hty : ∀ a : den ty, cells ty a = [leafT ty a]) : ∃ a : den ty, Wf ty a ∧ ArgOk w v (.one (.v ty a)) := by
  obtain ⟨fuel, hf⟩ := h
  obtain ⟨a, F, hr⟩ := hd H enc w 0 _ true fuel _ _ hf
  have hw := wf_of_rep ty a hr
  rw [hag, hty] at hr
  cases hr with
  | cons h1 h2 => exact ⟨a, hw, _, h1, fun _ _ => trivial⟩
theorem arg_agg {ty : Ty} {H : Type} {enc : TypeId × Value → H} {w : World} {cs : Array Value} {d : DataW H} {ps : List MemPlace} (hd : Dec P t ty) (h : DataW.Trod enc P w 0 (fun _ => true) true t (.agg cs) d ps) : ∃ a : den ty, Wf ty a ∧ ArgOk w (.agg cs) (.agg (split ty a)) := by
  obtain ⟨fuel, hf⟩ := h
  obtain ⟨a, F, hr⟩ := hd H enc w 0 _ true fuel _ _ hf
  have hr' : RepL w cs.toList (cells ty a) F := by simpa [Value.cells] using hr
  exact ⟨a, wf_of_rep ty a hr', cs.toList, by simp, rel_split ty a hr' fun _ _ => trivial⟩
end
theorem ok_slice {P : Program} {t e : TypeId} {w : World} {r : Reach} {b : Nat} {v : Value} (ht : P.underlying t = some (.slice e)) (h : Value.okWide P w r b t v) : v.cells = #[v] := by
  cases v <;> first | rfl | simp [Value.okWide, ht, Cell.okWide, Cell.ok] at h
theorem ok_int {P : Program} {t : TypeId} {k : IntKind} {w : World} {r : Reach} {b : Nat} {v : Value} (ht : P.underlying t = some (.int k)) (h : Value.okWide P w r b t v) : v.cells = #[v] := by
  obtain ⟨n, rfl⟩ := okWide_int ht h; rfl
theorem ok_bool {P : Program} {t : TypeId} {w : World} {r : Reach} {b : Nat} {v : Value} (ht : P.underlying t = some .bool) (h : Value.okWide P w r b t v) : v.cells = #[v] := by
  cases v <;> first | rfl | simp [Value.okWide, ht, Cell.okWide, Cell.ok] at h
theorem ok_str {P : Program} {t : TypeId} {w : World} {r : Reach} {b : Nat} {v : Value} (ht : P.underlying t = some .string) (h : Value.okWide P w r b t v) : v.cells = #[v] := by
  cases v <;> first | rfl | simp [Value.okWide, ht, Cell.okWide, Cell.ok] at h
theorem ok_struct {P : Program} {t : TypeId} {fs : Array Field} {w : World} {r : Reach} {b : Nat} {v : Value} (ht : P.underlying t = some (.struct fs)) (h : Value.okWide P w r b t v) : ∃ cs, v = .agg cs := by
  simp only [Value.okWide, ht] at h
  obtain ⟨cs, rfl, _⟩ := h
  exact ⟨cs, rfl⟩

/-! ### the ending -/
section
variable {H : Type} {enc : TypeId × Value → H} {P : Program}
theorem trodAll_below {W W' : World} (hl : laidOutB P = true) (hb : Below W.heap.size W W') : ∀ {ts : List TypeId} {vs : List Value} {ds : List (DataW H)} {ps : List MemPlace}, (ts.all fun t => P.readableRec t && decide (t < P.types.size)) = true → DataW.TrodAll enc P W 0 (fun _ => true) true ts vs ds ps →
    (∀ x ∈ ps, x.block < W.heap.size) → ∀ sp : Nat → Bool, (∀ p ∈ ps, sp p.block = true) → DataW.TrodAll enc P W' 0 sp true ts vs ds ps
  | [], [], [], _, _, h, _, _, _ => h
  | t :: ts, v :: vs, d :: ds, ps, hr, ⟨p, q, h1, h2, hp⟩, hlt, sp, hs => by
    subst hp
    simp only [List.all_cons, Bool.and_eq_true, decide_eq_true_eq] at hr
    refine ⟨p, q, ?_, trodAll_below hl hb hr.2 h2 (fun x hx => hlt x (List.mem_append_right _ hx)) sp (fun x hx => hs x (List.mem_append_right _ hx)), rfl⟩
    exact WideElems.Trod_stays hl hr.1.1 hr.1.2 h1 (fun x hx => hb.same (hlt x (List.mem_append_left _ hx))) (fun x hx => hs x (List.mem_append_left _ hx))

/-- The ending of a law: true, and the arguments read as they did. -/
theorem post_below {f : Func} {s : ChangeSpec} {W W' : World} {args : Array Value} {ds : List (DataW H)} {before : List MemPlace} (hl : laidOutB P = true) (hr : (f.params.toList.all fun t => P.readableRec t && decide (t < P.types.size)) = true) (hv : s.vars = [])
    (hW : DataW.Whole enc P f.params.toList s.vars false W args.toList ds [] before) (hb : Below W.heap.size W W') (hfn : s.fn H (ds ++ []) = { results := [.lit (.bool true)], args := ds }) {tb : TypeId} (ht : f.resultTypes = #[tb]) (hu : P.underlying tb = some .bool) :
    s.post enc P f false true false false W args (.bool true) W' := by
  have hold : ∀ p ∈ before, (fun b => decide (b < W.heap.size)) p.block = true := fun p hp => by simpa using hW.lt p hp
  have hlt : ∀ p ∈ before, p.block < W.heap.size := fun p hp => by simpa using hold p hp
  obtain ⟨p, q, hA, hV, hpq, hz, hn⟩ := id hW
  rw [hv] at hV
  obtain ⟨_, rfl⟩ := trodVars_none hV
  rw [List.append_nil] at hpq
  subst hpq
  have hres : ∀ (b : Nat) (sp : Nat → Bool) (hd : Bool), DataW.TrodAll enc P W' b sp hd f.resultTypes.toList ((Value.bool true).resultList f.resultTypes.size) (s.fn H (ds ++ [])).results [] := by
    intro b sp hd
    rw [hfn, ht]
    exact trodAll_cons_mk (shut_bool hu _) trodAll_mk0
  have hargs : ∀ sp : Nat → Bool, (∀ x ∈ before, sp x.block = true) → DataW.TrodAll enc P W' 0 sp true f.params.toList args.toList (s.fn H (ds ++ [])).args before := by
    intro sp hs
    rw [hfn]
    exact trodAll_below hl hb hr hA hlt sp hs
  have hvars : ∀ sp : Nat → Bool, DataW.TrodVars enc P W' sp s.vars (s.fn H (ds ++ [])).vars [] := by
    intro sp
    rw [hv, hfn]
    rfl
  refine ⟨ds, [], before, [], before, [], hW, hres _ _ _, hargs _ hold, hvars _, hb.frame _, fun _ => ?_⟩
  refine ⟨ok_one (by rw [ht]) rfl (okWide_bool_mk hu _), _, _, ([] ++ before) ++ [], ⟨[] ++ before, [], trodAll_append (hargs _ (fun _ _ => rfl)) (hres _ _ _), hvars _, rfl, ?_, ?_⟩, ?_⟩
  · intro b off hp
    have hp' : MemPlace.cell b off ∈ before := by simpa using hp
    rw [hb.frozen (p := ⟨b, off, none⟩) (hlt _ hp')]
    exact hz b off hp'
  · intro ha; cases ha
  · intro p hp _
    simpa using hp

def argFr : Nat → List A → List (Nat × Nat × S)
  | _, [] => []
  | i, x :: xs => (i, 0, .val x) :: argFr (i + 1) xs
theorem argFr_len : ∀ (i : Nat) (xs : List A), (argFr i xs).length = xs.length
  | _, [] => rfl
  | i, x :: xs => by simp [argFr, argFr_len (i + 1) xs]
theorem argFr_mem {vs : List Value} {xs : List A} {W : World} (h : All2 (ArgOk W) vs xs) : ∀ {i s n : Nat} {x : S}, (s, n, x) ∈ argFr i xs → ∃ j v y, s = i + j ∧ vs[j]? = some v ∧ x = .val y ∧ ArgOk W v y := by
  induction h with
  | nil => intro i s n x hm; cases hm
  | cons h1 h2 ih =>
    intro i s n x hm
    rcases List.mem_cons.1 hm with he | hm
    · injection he with e1 he
      injection he with _ e2
      subst e1 e2
      exact ⟨0, _, _, rfl, rfl, rfl, h1⟩
    · obtain ⟨j, v, y, g1, g2, g3⟩ := ih hm
      exact ⟨j + 1, v, y, by omega, by simpa using g2, g3⟩

/-- A contract with the result true, at a world. -/
theorem calls_law {c : Con} (hok : c.Ok P) {x : denV c.pre.tys} {y : denV c.post.tys} {W : World} {args : Array Value} {xs : List A} (hsem : c.sem x = some y) (hpre : F0.inj c.pre x = some ⟨1, argFr 0 xs, []⟩) (hpost : F0.inj c.post y = some ⟨1, [(0, 0, .val (.one (.v .bool true)))], []⟩) (ha : All2 (ArgOk W) args.toList xs) :
    Calls P c.f args W fun e W' => e = .returned (.bool true) ∧ Below W.heap.size W W' := by
  obtain ⟨_, hm⟩ := hok x y _ _ hsem hpre hpost
  have hlive : ∀ b, ¬ live noCx (fun _ => none) [] b := fun b ⟨_, _, _, hm, _⟩ => by cases hm
  have hokB : okB (fun _ => True) noCx (fun _ => none) [] = fun _ => True := by
    funext b
    exact propext ⟨fun _ => trivial, fun _ => ⟨trivial, hlive b⟩⟩
  have h := hm W (fun b => W.heap.size ≤ b) (fun _ => True) noCx (fun _ => none) args.toList (fun b hb => hb) (fun _ _ => trivial)
    ⟨rfl, fun s n z hmem => by
      obtain ⟨j, v, y, g1, g2, g3, g4⟩ := argFr_mem ha hmem
      subst g3
      have : s = j := by omega
      subst this
      refine ⟨v, by simpa [actL] using g2, ?_⟩
      show RelA _ _ _ _ _ _
      rw [hokB]
      exact g4, fun o n z hm => (by cases hm), fun o n z m z' hm => (by cases hm), fun r => ⟨_, _, _, rfl⟩⟩ (by rw [argFr_len]; exact ha.length)
  have hargs : args.toList.toArray = args := by simp
  rw [hargs] at h
  refine h.mono fun e W' ⟨v, us, c', ow', he, hres, hb, hsim, hlen, _⟩ => ⟨?_, hb.os, hb.tape, hb.output, hb.size, fun k hk => hb.block k hk (by omega)⟩
  obtain ⟨u, hu, hr⟩ := hsim.fr 0 0 _ (List.mem_singleton.2 rfl)
  have hr := RelC_bool (c := c') (ow := ow') hr
  have hlen : us.length = 1 := hlen
  match us, hlen with
  | [u'], _ =>
    have hu : u' = u := by simpa [actL] using hu
    have hv : v = u' := hres
    rw [he, hv, hu, hr]
end
end Go.V
