/-
  From the readings of a statement's arguments to abstract data, and from a contract to the statement's ending. Over any program. Conditions: none.
-/
import Derived.Test.YtdmiboplfgmgiaaAbP
import Derived.ProofKit
import Derived.OpenShut
import Derived.Carry
namespace Go.Ab
open Go.RowKit Go.ChangeShapes Go.WideShapes Go.ChangeAt

/-- What reads as type t holds the data of some a. -/
def Dec (P : Program) (t : TypeId) {α : Type} (en : α → List T) : Prop :=
  ∀ (H : Type) (enc : TypeId × Value → H) (w : World) (base : Nat) (spare : Nat → Bool) (held : Bool) (fuel : Nat) (cs : List Value) (x : DataW H × List MemPlace), DataW.trod enc P w base spare held fuel t cs = some x → ∃ (a : α) (F : List Nat), RepL w cs (en a) F

def encBo (b : Bool) : List T := [b1 b]
section
variable {P : Program} {t e : TypeId}
theorem plain_wf {k : IntKind} {n : Int} (h : (Lit.int k n).wf = true) : plain (.int k n) = true := h
theorem dec_int (ht : P.underlying t = some (.int .i64)) : Dec P t encI := by
  intro H enc w base spare held fuel cs x h
  obtain ⟨n, rfl, _, hw⟩ := DataW.trod_int ht h
  exact ⟨n, _, .cons (.lit (plain_wf hw)) .nil⟩
theorem dec_u8 (ht : P.underlying t = some (.int .u8)) : Dec P t encU := by
  intro H enc w base spare held fuel cs x h
  obtain ⟨n, rfl, _, hw⟩ := DataW.trod_int ht h
  exact ⟨n, _, .cons (.lit (plain_wf hw)) .nil⟩
theorem dec_bool (ht : P.underlying t = some .bool) : Dec P t encBo := by
  intro H enc w base spare held fuel cs x h
  obtain ⟨b, rfl, _⟩ := DataW.trod_bool ht h
  exact ⟨b, _, .cons (.lit rfl) .nil⟩
theorem dec_str (ht : P.underlying t = some .string) : Dec P t encS := by
  intro H enc w base spare held fuel cs x h
  obtain ⟨s, rfl, _, hs⟩ := DataW.trod_string ht h
  exact ⟨s, _, .cons (.lit (by simpa [plain] using hs)) .nil⟩

theorem dec_rows {α : Type} {en : α → List T} {w : World} {k : Nat} {b off : Nat} : ∀ (n i : Nat), (∀ j, i ≤ j → j < i + n → ∃ (us : List Value) (a : α) (F : List Nat), us.length = k ∧ (∀ m, m < k → w.cell? ⟨b, off + (j * k + m), none⟩ = us[m]?) ∧ RepL w us (en a) F) →
    ∃ (l : List α) (xs : List Value) (F : List Nat), l.length = n ∧ xs.length = n * k ∧ (∀ j u, xs[j]? = some u → w.cell? ⟨b, off + (i * k + j), none⟩ = some u) ∧ RepL w xs (l.map en).flatten F := by
  intro n
  induction n with
  | zero => intro i _; exact ⟨[], [], [], rfl, by simp, by simp, .nil⟩
  | succ n ih =>
    intro i h
    obtain ⟨us, a, F, h1, h2, h3⟩ := h i (Nat.le_refl _) (by omega)
    obtain ⟨l, xs, G, g1, g2, g3, g4⟩ := ih (i + 1) fun j hj hj' => h j (by omega) (by omega)
    refine ⟨a :: l, us ++ xs, F ++ G, by simp [g1], by simp [h1, g2, Nat.succ_mul, Nat.add_comm], fun j u hu => ?_, by simpa using h3.append g4⟩
    by_cases hj : j < k
    · rw [List.getElem?_append_left (by omega)] at hu
      rw [h2 j hj]; exact hu
    · rw [List.getElem?_append_right (by omega), h1] at hu
      have := g3 (j - k) u hu
      rw [Nat.succ_mul] at this
      rw [show i * k + j = i * k + k + (j - k) by omega]
      exact this

theorem dec_slice {α : Type} {en : α → List T} (ht : P.underlying t = some (.slice e)) (k : Nat) (hk : P.cellsOf e = k) (h0 : 0 < k) (hlen : ∀ a, (en a).length = k) (hd : Dec P e en) : Dec P t (fun l : List α => [T.sl (l.map en)]) := by
  intro H enc w base spare held fuel cs x h
  rcases DataW.trod_slice ht h with ⟨rfl, _⟩ | ⟨a, len, cap, elems, rest, n, _, rfl, _, hb, hl, hm, hel, hels, _, _⟩
  · exact ⟨[], [], by simpa using RepL.cons (F := []) (.nil (Nat.zero_le _)) .nil⟩
  · rw [hk] at hels
    rcases Nat.eq_zero_or_pos len with rfl | hpos
    · exact ⟨[], [], by simpa using RepL.cons (F := []) (.nil hm) .nil⟩
    · have each : ∀ j, j < len → ∃ (us : List Value) (x : α) (F : List Nat), us.length = k ∧ (∀ m, m < k → w.cell? ((a.add (j * k)).add m) = us[m]?) ∧ RepL w us (en x) F := by
        intro j hj
        have h1 := hels j hj
        have h2 : elems[j]? = some elems[j] := List.getElem?_eq_getElem (by omega)
        rw [h2, Option.bind_eq_some_iff] at h1
        obtain ⟨us, hus, htr⟩ := h1
        obtain ⟨_, hul, huc⟩ := World.cells?_some hus
        obtain ⟨x, F, hr⟩ := hd H enc w base spare held n us _ htr
        exact ⟨us, x, F, hul, huc, hr⟩
      have hsp : a.spot = none := by
        obtain ⟨us, _, _, h1, h2, _⟩ := each 0 hpos
        have h3 := h2 0 h0
        have h4 : us[0]? = some us[0] := List.getElem?_eq_getElem (by omega)
        rw [h4] at h3
        unfold World.cell? at h3
        split at h3
        · split at h3
          · cases h3
          · rename_i hs
            cases ha : a.spot with
            | none => rfl
            | some z => simp [Addr.add, ha] at hs
        · cases h3
      obtain ⟨ab, ao, as⟩ := a
      simp only at hsp
      subst hsp
      obtain ⟨l, xs, F, g1, g2, g3, g4⟩ := dec_rows (en := en) (w := w) (b := ab) (off := ao) len 0 fun j _ hj => by
        obtain ⟨us, x, F, h1, h2, h3⟩ := each j (by omega)
        refine ⟨us, x, F, h1, fun m hm => ?_, h3⟩
        rw [← h2 m hm]
        simp only [add_eq, Nat.add_assoc]
      refine ⟨l, ab :: F ++ [], .cons (.cons (k := k) (by simpa using g1) hpos h0 (fun e he => ?_) hl hm g2 (fun j u hu => ?_) g4) .nil⟩
      · obtain ⟨y, _, rfl⟩ := List.mem_map.1 he
        exact hlen y
      · have := g3 j u hu
        simpa using this

theorem rep_step {w : World} {cs : List Value} {off k off' : Nat} {ts1 ts2 : List T} {F G : List Nat} (h1 : RepL w ((cs.drop off).take k) ts1 F) (hk : off + k = off') (h2 : RepL w (cs.drop off') ts2 G) : RepL w (cs.drop off) (ts1 ++ ts2) (F ++ G) := by
  have := h1.append h2
  subst hk
  rw [← List.drop_drop, List.take_append_drop] at this
  exact this
theorem rep_end {w : World} {cs : List Value} {n : Nat} (h : cs.length = n) : RepL w (cs.drop n) [] [] := by
  rw [List.drop_eq_nil_of_le (by omega)]; exact .nil
/-- One field of a struct's reading. -/
theorem dec_field {α : Type} {en : α → List T} {H : Type} {enc : TypeId × Value → H} {w : World} {base : Nat} {spare : Nat → Bool} {held : Bool} {n : Nat} {cs : List Value} {ft : TypeId} {y : Option (DataW H × List MemPlace)} {off k : Nat} (hd : Dec P ft en) (hk : P.cellsOf ft = k)
    (h : DataW.trod enc P w base spare held n ft ((cs.drop off).take (P.cellsOf ft)) = y) (hy : y.isSome = true) : ∃ (a : α) (F : List Nat), RepL w ((cs.drop off).take k) (en a) F := by
  obtain ⟨x, hx⟩ := Option.isSome_iff_exists.1 hy
  rw [hx, hk] at h
  exact hd H enc w base spare held n _ x h
theorem some_of_lt {β : Type} {xs : List β} {i n : Nat} (h : xs.length = n) (hi : i < n) : (xs[i]?).isSome = true := by
  rw [List.getElem?_eq_getElem (by omega)]; rfl

/-- The value of one argument. -/
theorem arg_one {α : Type} {en : α → List T} {H : Type} {enc : TypeId × Value → H} {w : World} {v : Value} {d : DataW H} {ps : List MemPlace} (hd : Dec P t en) (hag : v.cells = #[v]) (h : DataW.Trod enc P w 0 (fun _ => true) true t v d ps) (mk : α → T) (hmk : ∀ a, en a = [mk a]) : ∃ (a : α) (F : List Nat), RepV w v (.one (mk a)) F := by
  obtain ⟨fuel, hf⟩ := h
  obtain ⟨a, F, hr⟩ := hd H enc w 0 _ true fuel _ _ hf
  rw [hag, hmk] at hr
  cases hr with
  | cons h1 h2 => exact ⟨a, _, h1⟩
theorem arg_agg {α : Type} {en : α → List T} {H : Type} {enc : TypeId × Value → H} {w : World} {cs : Array Value} {d : DataW H} {ps : List MemPlace} (hd : Dec P t en) (h : DataW.Trod enc P w 0 (fun _ => true) true t (.agg cs) d ps) : ∃ (a : α) (F : List Nat), RepV w (.agg cs) (.agg (en a)) F := by
  obtain ⟨fuel, hf⟩ := h
  obtain ⟨a, F, hr⟩ := hd H enc w 0 _ true fuel _ _ hf
  exact ⟨a, F, cs.toList, by simp, by simpa [Value.cells] using hr⟩
end

theorem ok_slice {P : Program} {t e : TypeId} {w : World} {r : Reach} {b : Nat} {v : Value} (ht : P.underlying t = some (.slice e)) (h : Value.okWide P w r b t v) : v.cells = #[v] := by
  cases v <;> first | rfl | simp [Value.okWide, ht, Cell.okWide, Cell.ok] at h
theorem ok_int {P : Program} {t : TypeId} {k : IntKind} {w : World} {r : Reach} {b : Nat} {v : Value} (ht : P.underlying t = some (.int k)) (h : Value.okWide P w r b t v) : v.cells = #[v] := by
  obtain ⟨n, rfl⟩ := okWide_int ht h; rfl
theorem ok_bool {P : Program} {t : TypeId} {w : World} {r : Reach} {b : Nat} {v : Value} (ht : P.underlying t = some .bool) (h : Value.okWide P w r b t v) : v.cells = #[v] := by
  cases v <;> first | rfl | simp [Value.okWide, ht, Cell.okWide, Cell.ok] at h
theorem ok_str {P : Program} {t : TypeId} {w : World} {r : Reach} {b : Nat} {v : Value} (ht : P.underlying t = some .string) (h : Value.okWide P w r b t v) : v.cells = #[v] := by
  cases v <;> first | rfl | simp [Value.okWide, ht, Cell.okWide, Cell.ok] at h
theorem ok_struct {P : Program} {t : TypeId} {fs : Array Field} {w : World} {r : Reach} {b : Nat} {v : Value} (ht : P.underlying t = some (.struct fs)) (h : Value.okWide P w r b t v) : ∃ cs, v = .agg cs := by
  simp only [Value.okWide, ht] at h
  obtain ⟨cs, rfl, _⟩ := h
  exact ⟨cs, rfl⟩

/-! ### the ending -/
section
variable {H : Type} {enc : TypeId × Value → H} {P : Program}
theorem trodAll_below {W W' : World} (hl : laidOutB P = true) (hb : Below W.heap.size W W') : ∀ {ts : List TypeId} {vs : List Value} {ds : List (DataW H)} {ps : List MemPlace}, (ts.all fun t => P.readableRec t && decide (t < P.types.size)) = true → DataW.TrodAll enc P W 0 (fun _ => true) true ts vs ds ps →
    (∀ x ∈ ps, x.block < W.heap.size) → ∀ sp : Nat → Bool, (∀ p ∈ ps, sp p.block = true) → DataW.TrodAll enc P W' 0 sp true ts vs ds ps
  | [], [], [], _, _, h, _, _, _ => h
  | t :: ts, v :: vs, d :: ds, ps, hr, ⟨p, q, h1, h2, hp⟩, hlt, sp, hs => by
    subst hp
    simp only [List.all_cons, Bool.and_eq_true, decide_eq_true_eq] at hr
    refine ⟨p, q, ?_, trodAll_below hl hb hr.2 h2 (fun x hx => hlt x (List.mem_append_right _ hx)) sp (fun x hx => hs x (List.mem_append_right _ hx)), rfl⟩
    exact WideElems.Trod_stays hl hr.1.1 hr.1.2 h1 (fun x hx => hb.same (hlt x (List.mem_append_left _ hx))) (fun x hx => hs x (List.mem_append_left _ hx))

/-- The ending of a law: true, and the arguments read as they did. -/
theorem post_below {f : Func} {s : ChangeSpec} {W W' : World} {args : Array Value} {ds : List (DataW H)} {before : List MemPlace} (hl : laidOutB P = true) (hr : (f.params.toList.all fun t => P.readableRec t && decide (t < P.types.size)) = true) (hv : s.vars = [])
    (hW : DataW.Whole enc P f.params.toList s.vars false W args.toList ds [] before) (hb : Below W.heap.size W W') (hfn : s.fn H (ds ++ []) = { results := [.lit (.bool true)], args := ds }) {tb : TypeId} (ht : f.resultTypes = #[tb]) (hu : P.underlying tb = some .bool) :
    s.post enc P f false true false false W args (.bool true) W' := by
  have hold : ∀ p ∈ before, (fun b => decide (b < W.heap.size)) p.block = true := fun p hp => by simpa using hW.lt p hp
  have hlt : ∀ p ∈ before, p.block < W.heap.size := fun p hp => by simpa using hold p hp
  obtain ⟨p, q, hA, hV, hpq, hz, hn⟩ := id hW
  rw [hv] at hV
  obtain ⟨_, rfl⟩ := trodVars_none hV
  rw [List.append_nil] at hpq
  subst hpq
  have hres : ∀ (b : Nat) (sp : Nat → Bool) (hd : Bool), DataW.TrodAll enc P W' b sp hd f.resultTypes.toList ((Value.bool true).resultList f.resultTypes.size) (s.fn H (ds ++ [])).results [] := by
    intro b sp hd
    rw [hfn, ht]
    exact trodAll_cons_mk (shut_bool hu _) trodAll_mk0
  have hargs : ∀ sp : Nat → Bool, (∀ x ∈ before, sp x.block = true) → DataW.TrodAll enc P W' 0 sp true f.params.toList args.toList (s.fn H (ds ++ [])).args before := by
    intro sp hs
    rw [hfn]
    exact trodAll_below hl hb hr hA hlt sp hs
  have hvars : ∀ sp : Nat → Bool, DataW.TrodVars enc P W' sp s.vars (s.fn H (ds ++ [])).vars [] := by
    intro sp
    rw [hv, hfn]
    rfl
  refine ⟨ds, [], before, [], before, [], hW, hres _ _ _, hargs _ hold, hvars _, hb.frame _, fun _ => ?_⟩
  refine ⟨ok_one (by rw [ht]) rfl (okWide_bool_mk hu _), _, _, ([] ++ before) ++ [], ⟨[] ++ before, [], trodAll_append (hargs _ (fun _ _ => rfl)) (hres _ _ _), hvars _, rfl, ?_, ?_⟩, ?_⟩
  · intro b off hp
    have hp' : MemPlace.cell b off ∈ before := by simpa using hp
    rw [hb.frozen (p := ⟨b, off, none⟩) (hlt _ hp')]
    exact hz b off hp'
  · intro ha; cases ha
  · intro p hp _
    simpa using hp

/-- A contract with the result true, at a world. -/
theorem calls_of_meets {f : FuncId} {avs : List AV} {W : World} {args : Array Value} {F : List Nat} (hm : MeetsAt P f avs [.one (b1 true)] none) (hr : RepVs W args.toList avs F) : Calls P f args W fun e W' => e = .returned (.bool true) ∧ Below W.heap.size W W' := by
  have h := hm.2 W args.toList F hr
  have ha : args.toList.toArray = args := by simp
  rw [ha] at h
  refine h.mono fun e W' ⟨v, us, G, he, hres, hb, hrep, _⟩ => ⟨?_, hb⟩
  cases hrep with
  | cons h1 h2 =>
    cases h2 with
    | nil =>
      have hv := hres
      simp only [ResIs] at hv
      subst hv
      cases h1
      exact he
end
end Go.Ab
