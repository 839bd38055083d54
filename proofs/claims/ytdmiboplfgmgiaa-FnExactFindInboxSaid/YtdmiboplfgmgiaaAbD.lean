/-
  Operations that make rows: make, a slice literal, append; and a call whose results lie in memory of their own. Over any program. Conditions: the obligations that the abstract operations list.
-/
import Derived.Test.YtdmiboplfgmgiaaAbC
namespace Go.Ab
open Go.RowKit

/-- A zero cell inside a row. -/
def zE : Value → T
  | .int k n => if plain (.int k n) then .lit (.int k n) else .any
  | .bool b => .lit (.bool b)
  | .string s => if plain (.string s) then .lit (.string s) else .any
  | .slice none 0 0 => .sl []
  | _ => .any

section
variable {B : Nat} {src : Nat → Prop} {c : Cx} {ow : Nat → Option Nat} {st : St} {a : Act} {w : World} {P : Program} {o : Oper}

theorem zE_sound {v : Value} (h : (zE v).solid = true) : Rep w v (zE v) [] := by
  unfold zE at *
  split at h
  · split at h
    · rename_i hp; rw [if_pos hp]; exact .lit hp
    · cases h
  · exact .lit rfl
  · split at h
    · rename_i hp; rw [if_pos hp]; exact .lit hp
    · cases h
  · exact .nil (Nat.zero_le _)
  · cases h
theorem zEs_sound : ∀ {vs : List Value}, (vs.map zE).all T.solid = true → RepL w vs (vs.map zE) []
  | [], _ => .nil
  | v :: vs, h => by
    simp only [List.map_cons, List.all_cons, Bool.and_eq_true] at h
    exact .cons (zE_sound h.1) (zEs_sound h.2)
theorem RepL_replicate {vs : List Value} {ts : List T} (h : RepL w vs ts []) : ∀ n, RepL w (List.replicate n vs).flatten (List.replicate n ts).flatten []
  | 0 => .nil
  | n + 1 => by
    rw [List.replicate_succ, List.replicate_succ, List.flatten_cons, List.flatten_cons]
    exact h.append (RepL_replicate h n)

theorem madeCells_flatten (z : Array Value) (hz : 0 < z.size) : ∀ n, (madeCells z (n * z.size)).toList = (List.replicate n z.toList).flatten := by
  intro n
  apply List.ext_getElem?
  intro j
  induction n generalizing j with
  | zero => simp [madeCells]
  | succ n ih =>
    rw [List.replicate_succ', List.flatten_append, List.flatten_cons, List.flatten_nil, List.append_nil]
    have hlen : (List.replicate n z.toList).flatten.length = n * z.size := by simp [List.length_flatten]
    by_cases hj : j < n * z.size
    · rw [List.getElem?_append_left (by omega), ← ih j]
      simp only [madeCells, Array.toList_map, Array.toList_range, List.getElem?_map]
      rw [List.getElem?_range hj, List.getElem?_range (by rw [Nat.succ_mul]; omega)]
    · rw [List.getElem?_append_right (by omega), hlen]
      simp only [madeCells, Array.toList_map, Array.toList_range, List.getElem?_map]
      by_cases hj2 : j < (n + 1) * z.size
      · rw [List.getElem?_range hj2]
        have hlt : j - n * z.size < z.size := by rw [Nat.succ_mul] at hj2; omega
        have hmod : j % z.size = j - n * z.size := by
          have : j = (j - n * z.size) + z.size * n := by rw [Nat.mul_comm z.size n]; omega
          rw [this, Nat.add_mul_mod_self_left, Nat.mod_eq_of_lt (by omega), ← this]
        simp [hmod, hlt]
      · rw [List.getElem?_eq_none (by simpa using hj2)]
        have : ¬ j - n * z.size < z.size := by rw [Nat.succ_mul] at hj2; omega
        simp [this]

theorem ownsRow_new {e k n : Nat} (cells : List Value) (hB : B ≤ w.heap.size) (hn : n ≤ maxLen) (hl : cells.length = n * k) :
    (w.alloc (.cells cells.toArray e (0, 0))).ownsRow B e k (.slice (some ⟨w.heap.size, 0, none⟩) n n) n cells :=
  ⟨hl, .inr ⟨w.heap.size, n, cells.toArray, rfl, hB, heap_alloc_new w _, Nat.le_refl _, hn, by simpa using hl, by simpa using List.take_of_length_le (Nat.le_of_eq hl)⟩⟩

/-- The model lays a row of new cells: the abstract one does. -/
theorem layRow_sound (h : SimC B src c ow st a w) (hsrc : ∀ b, B ≤ b → src b) {d : Nat} (hd : d < a.tmps.size) {e k : Nat} {es : List (List T)} {xs : List Value} {F : List Nat} {deep : Bool} (hk0 : 0 < k) (hk : ∀ x ∈ es, x.length = k) (hn : es.length ≤ maxLen) (hrep : RepL w xs es.flatten F)
    (hF : ∀ b ∈ F, okB src c st.ob b) (hdeep : deep = true → F.Nodup ∧ ∀ b ∈ F, B ≤ b ∧ Unf w b ∧ ∃ r, ow b = some r ∧ ∀ x, (r, x) ∉ st.ob) :
    Sim B src (st.newRow d e k es deep) (a.put (some d) (.slice (some ⟨w.heap.size, 0, none⟩) es.length es.length)) (w.alloc (.cells xs.toArray e (0, 0))) := by
  have h1 := h.scrub d
  have hlen : xs.length = es.length * k := by rw [hrep.length, flatten_length hk]
  have hblk : ∀ b, b < w.heap.size → (w.alloc (.cells xs.toArray e (0, 0))).heap[b]? = w.heap[b]? := fun b hb => Below.heap_alloc _ _ _ hb
  have hrep' : RepL (w.alloc (.cells xs.toArray e (0, 0))) xs es.flatten F := hrep.frame fun b hb => hblk b (hrep.lt b hb)
  obtain ⟨ow', h2⟩ := h1.addRow hsrc (free_scrub st d) (by simp) hblk (deep := deep) (ownsRow_new (e := e) xs h.base hn hlen) hk0 hk (fun g hg => by simp [Value.ownBlock] at hg; omega) hrep'
    (fun b hb => .inl ⟨hrep.lt b hb, (hF b hb).1, fun hl => (hF b hb).2 (live_scrub hl)⟩)
    (fun hd' => by
      obtain ⟨n1, n2⟩ := hdeep hd'
      refine ⟨n1, fun b hb => ?_⟩
      obtain ⟨m1, m2, r, m3, m4⟩ := n2 b hb
      refine ⟨m1, m2.keep (hblk b (hrep.lt b hb)), fun _ => ⟨r, m3, fun x hx => ?_⟩⟩
      simp only [St.scrub, St.weak, List.mem_filterMap, Option.map_eq_some_iff] at hx
      obtain ⟨⟨o', y⟩, hy, z, hz, he⟩ := hx
      injection he with e1 e2
      subst e1
      exact m4 y hy)
  exact newRow_put h2 hd

/-! ### make -/
def mMake (P : Program) (st : St) (d : Nat) (t : TypeId) (x y : Operand) : Option (St × List Prop) :=
  match P.underlying t, st.getT x, st.getT y with
  | some (.slice e), some (.lit (.int _ n), ox), some (.lit (.int _ m), oy) =>
    match P.info? e with
    | some i =>
      match i.zero with
      | some z =>
        if i.size = z.cells.size ∧ 0 < i.size ∧ (z.cells.toList.map zE).all T.solid = true then
          some (st.newRow d e i.size (List.replicate n.toNat (z.cells.toList.map zE)) true, (m = n) :: (0 ≤ n) :: ((i.bytes : Int) * n ≤ 281474976710656) :: (n ≤ 4611686018427387904) :: (ox ++ oy))
        else none
      | none => none
    | none => none
  | _, _, _ => none
theorem make_sound (h : SimC B src c ow st a w) (hsrc : ∀ b, B ≤ b → src b) {d : Nat} (hdst : o.dst = some d) (hd : d < a.tmps.size) {t : TypeId} {x y : Operand} {st' : St} {obs : List Prop} (hop : o.op = .makeSlice t x y) (hv : mMake P st d t x y = some (st', obs)) (ho : Ob obs)
    {K : Act → World → Prop} {Q : Exit → Act → World → Prop} (hK : ∀ v w', Sim B src st' (a.put (some d) v) w' → Below w.heap.size w w' → K (a.put (some d) v) w') : o.wp P a w K Q := by
  unfold mMake at hv
  split at hv
  · rename_i e k1 n ox k2 m oy ht hx hy
    split at hv
    · rename_i i hi
      split at hv
      · rename_i z hz
        split at hv
        · rename_i hcond
          obtain ⟨c1, c2, c3⟩ := hcond
          injection hv with hv
          injection hv with e1 e2
          subst e1 e2
          obtain ⟨p1, p2, p3, p4, p5⟩ := ho
          obtain ⟨p5, p6⟩ := Ob_append p5
          subst p1
          obtain ⟨ex, _⟩ := h.getT hx p5
          obtain ⟨ey, _⟩ := h.getT hy p6
          have hrun := run_make (P := P) w t e i z ht hi hz k1 k2 m m p2 (Int.le_refl _) p3 (by omega)
          unfold Oper.wp
          have hz0 : 0 < z.cells.size := by omega
          have hcells : madeCells z.cells (m.toNat * i.size) = (List.replicate m.toNat z.cells.toList).flatten.toArray := by
            rw [c1]
            apply Array.toList_inj.1
            rw [madeCells_flatten z.cells hz0]
          have hrun' : (execOp a.eval o).run P w = .ok (.value (.slice (some ⟨w.heap.size, 0, none⟩) m.toNat m.toNat)) (w.alloc (.cells (List.replicate m.toNat z.cells.toList).flatten.toArray e (0, 0))) := by
            simp only [execOp, hop, ex, ey]
            rw [hcells] at hrun
            simp [hrun]
          rw [hrun']
          simp only [Oper.upon, hdst]
          have hlay := layRow_sound (e := e) (k := i.size) (es := List.replicate m.toNat (z.cells.toList.map zE)) (F := []) (deep := true) h hsrc hd c2 (fun x hx => by rw [(List.mem_replicate.1 hx).2]; simp [c1])
            (by simp [maxLen]; omega) (RepL_replicate (zEs_sound c3) m.toNat) (by simp) (fun _ => by simp)
          simp only [List.length_replicate] at hlay
          exact hK _ _ hlay ((Below.refl _ _).alloc (Nat.le_refl _) _)
        · cases hv
      · cases hv
    · cases hv
  · cases hv
end
end Go.Ab
