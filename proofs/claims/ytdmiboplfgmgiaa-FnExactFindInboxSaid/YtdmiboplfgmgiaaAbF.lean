/-
  Slice literals and append on abstract frames. Over any program. Conditions: the obligations that the abstract operations list.
-/
import Derived.Test.YtdmiboplfgmgiaaAbE
namespace Go.Ab
open Go.RowKit

/-- The elements of a literal: each operand's cells, moved. -/
def litEls (st : St) (k : Nat) : List (Nat × Operand) → Option (List (List T) × List Nat × Bool × List Prop)
  | [] => some ([], [], true, [])
  | (_, x) :: ps =>
    match st.get x, litEls st k ps with
    | some (g, .val y), some (es, i2, d2, os) =>
      if y.cells.length = k then
        match mvL st y.cells with
        | some (ts, i1, d1) => some (ts :: es, i1 ++ i2, d1 && d2, flagOb g ++ os)
        | none => none
      else none
    | _, _ => none
def nodupB (l : List Nat) : Bool :=
  match l with
  | [] => true
  | x :: xs => !xs.contains x && nodupB xs
theorem nodupB_sound : ∀ {l : List Nat}, nodupB l = true → l.Nodup
  | [], _ => List.nodup_nil
  | x :: xs, h => by
    simp only [nodupB, Bool.and_eq_true, Bool.not_eq_true'] at h
    exact List.nodup_cons.2 ⟨by simpa using h.1, nodupB_sound h.2⟩
def mLit (P : Program) (st : St) (d : Nat) (t : TypeId) (len : Nat) (ps : List (Nat × Operand)) : Option (St × List Prop) :=
  match P.underlying t with
  | some (.slice e) =>
    match P.info? e with
    | some i =>
      match litEls st i.size ps with
      | some (es, ids, dp, os) =>
        if 0 < i.size ∧ ps.map (·.1) = List.range len ∧ len * i.size ≤ 1000 ∧ i.zero.isSome = true ∧ nodupB ids = true then some ((st.freezeAll ids).newRow d e i.size es dp, os) else none
      | none => none
    | none => none
  | _ => none

section
variable {B : Nat} {src : Nat → Prop} {c : Cx} {ow : Nat → Option Nat} {st : St} {a : Act} {w : World} {P : Program} {o : Oper}

theorem mvL_solid {ts ts' : List T} {ids : List Nat} {dp : Bool} (h : mvL st ts = some (ts', ids, dp)) : ts.all T.solid = true ∧ ts'.length = ts.length := by
  induction ts generalizing ts' ids dp with
  | nil => injection h with h; injection h with e1 h; subst e1; exact ⟨rfl, rfl⟩
  | cons t ts ih =>
    unfold mvL at h
    split at h
    · rename_i t' i1 d1 ts'' i2 d2 h1 h2
      injection h with h; injection h with e1 h
      subst e1
      obtain ⟨h3, h4⟩ := ih h2
      refine ⟨?_, by simp [h4]⟩
      simp only [List.all_cons, Bool.and_eq_true]
      exact ⟨by cases t <;> first | rfl | (cases h1; done), h3⟩
    · cases h

theorem litEls_sound (h : SimC B src c ow st a w) {k : Nat} : ∀ {ps : List (Nat × Operand)} {es : List (List T)} {ids : List Nat} {dp : Bool} {os : List Prop}, litEls st k ps = some (es, ids, dp, os) → Ob os → ids.Nodup →
    ∃ (vss : List (List Value)) (F : List Nat), ps.map (fun p => (a.eval p.2).cells) = vss.map List.toArray ∧ (∀ x ∈ es, x.length = k) ∧ (∀ x ∈ vss, x.length = k) ∧ es.length = ps.length ∧ RepL w vss.flatten es.flatten F ∧ Taken B c ow w (okB src c st.ob) ids dp F ∧
      ∀ r ∈ ids, ∃ e k es deep, (r, LO.row e k es deep) ∈ st.ob := by
  intro ps
  induction ps with
  | nil =>
    intro es ids dp os hl _ _
    injection hl with hl; injection hl with e1 hl; injection hl with e2 hl; injection hl with e3 e4; subst e1 e2 e3 e4
    exact ⟨[], [], rfl, by simp, by simp, rfl, .nil, ⟨by simp, fun _ => by simp⟩, by simp⟩
  | cons p ps ih =>
    intro es ids dp os hl ho hn
    obtain ⟨i, x⟩ := p
    unfold litEls at hl
    split at hl
    · rename_i g y es' i2 d2 os' hg hrest
      split at hl
      · rename_i hk
        split at hl
        · rename_i ts i1 d1 hmv
          injection hl with hl; injection hl with e1 hl; injection hl with e2 hl; injection hl with e3 e4; subst e1 e2 e3 e4
          obtain ⟨o1, o2⟩ := Ob_append ho
          obtain ⟨vss, F, q1, q2, q3, q4, q5, q6, q7⟩ := ih hrest o2 (List.nodup_append.1 hn).2.1
          obtain ⟨hsol, hlen⟩ := mvL_solid hmv
          obtain ⟨vs, hvs, hall, _⟩ := solid_cells h.rvs (h.getOn hg o1) hsol
          obtain ⟨G, g1, g2⟩ := mvL_sound h hmv hall (List.nodup_append.1 hn).1
          refine ⟨vs :: vss, G ++ F, by simp [q1, hvs], ?_, ?_, by simp [q4], ?_, g2.append q6 hn, fun r hr => (List.mem_append.1 hr).elim (mvL_ids hmv r) (q7 r)⟩
          · intro z hz
            rcases List.mem_cons.1 hz with rfl | hz
            · omega
            · exact q2 z hz
          · intro z hz
            rcases List.mem_cons.1 hz with rfl | hz
            · rw [hall.length]; exact hk
            · exact q3 z hz
          · simpa using g1.append q5
        · cases hl
      · cases hl
    · cases hl

/-! the model's filling -/
theorem foldl_set (off : Nat) : ∀ (l : List Value) (m : Nat) (cells : Array Value), off + m + l.length ≤ cells.size →
    (l.zipIdx m).foldl (fun cs (x : Value × Nat) => cs.setIfInBounds (off + x.2) x.1) cells = (cells.toList.take (off + m) ++ l ++ cells.toList.drop (off + m + l.length)).toArray
  | [], m, cells, _ => by simp
  | v :: l, m, cells, h => by
    have hl : off + m < cells.size := by simp at h; omega
    rw [List.zipIdx_cons, List.foldl_cons, foldl_set off l (m + 1) _ (by simp at h ⊢; omega)]
    congr 1
    have h1 : (cells.setIfInBounds (off + m) v).toList = cells.toList.set (off + m) v := by simp
    rw [h1]
    have h2 : (cells.toList.set (off + m) v).take (off + (m + 1)) = cells.toList.take (off + m) ++ [v] := by
      rw [← Nat.add_assoc, List.take_succ_eq_append_getElem (by simpa using hl), List.take_set_of_le (Nat.le_refl _)]
      simp
    have h3 : (cells.toList.set (off + m) v).drop (off + (m + 1) + l.length) = cells.toList.drop (off + m + (v :: l).length) := by
      rw [List.drop_set_of_lt (by omega)]
      congr 1
      simp
      omega
    rw [h2, h3]
    simp

theorem fill_seq (size : Nat) : ∀ (vs : List Value) (j : Nat) (cells : Array Value), (∀ v ∈ vs, v.cells.size = size) → (j + vs.length) * size ≤ cells.size →
    Instr.fill (fun i => some (i * size, size)) cells ((List.range' j vs.length).zip vs) = some (cells.toList.take (j * size) ++ (vs.map fun v => v.cells.toList).flatten ++ cells.toList.drop ((j + vs.length) * size)).toArray
  | [], j, cells, _, _ => by simp [Instr.fill]
  | v :: vs, j, cells, hv, hle => by
    have hsz : v.cells.size = size := hv v (List.mem_cons_self ..)
    have hle' : (j + 1 + vs.length) * size ≤ cells.size := by rw [show j + 1 + vs.length = j + (v :: vs).length by simp; omega]; exact hle
    have h1 : j * size + size ≤ cells.size := by
      have : (j + 1) * size ≤ (j + 1 + vs.length) * size := Nat.mul_le_mul_right _ (by omega)
      rw [Nat.succ_mul] at this
      omega
    rw [List.length_cons, List.range'_succ, List.zip_cons_cons]
    unfold Instr.fill
    simp only [hsz, ne_eq, not_true_eq_false, decide_false, Bool.false_or]
    have hif : ¬ (j * size + size > cells.size) := by omega
    simp only [gt_iff_lt, decide_eq_true_eq]
    rw [if_neg (by omega)]
    have hfold : (v.cells.zipIdx.foldl (fun cs (x : Value × Nat) => cs.setIfInBounds (j * size + x.2) x.1) cells) = (cells.toList.take (j * size) ++ v.cells.toList ++ cells.toList.drop (j * size + size)).toArray := by
      rw [← Array.foldl_toList, Array.toList_zipIdx]
      have := foldl_set (j * size) v.cells.toList 0 cells (by simpa [hsz] using h1)
      simpa [hsz] using this
    have hfold' : (v.cells.zipIdx.foldl (fun cs x => match x with | (c, j_1) => cs.setIfInBounds (j * size + j_1) c) cells) = (cells.toList.take (j * size) ++ v.cells.toList ++ cells.toList.drop (j * size + size)).toArray := hfold
    rw [hfold']
    have hlen1 : (cells.toList.take (j * size) ++ v.cells.toList).length = (j + 1) * size := by
      rw [List.length_append, List.length_take, Array.length_toList, Array.length_toList, hsz, Nat.succ_mul]
      omega
    rw [fill_seq size vs (j + 1) _ (fun u hu => hv u (List.mem_cons_of_mem _ hu)) (by
      simp only [List.size_toArray, List.length_append, List.length_take, List.length_drop, Array.length_toList, hsz]
      omega)]
    congr 2
    have e1 : (cells.toList.take (j * size) ++ v.cells.toList ++ cells.toList.drop (j * size + size)).take ((j + 1) * size) = cells.toList.take (j * size) ++ v.cells.toList := by
      rw [← hlen1, List.take_left]
    have e2 : (cells.toList.take (j * size) ++ v.cells.toList ++ cells.toList.drop (j * size + size)).drop ((j + 1 + vs.length) * size) = cells.toList.drop ((j + (vs.length + 1)) * size) := by
      rw [List.drop_append, List.drop_eq_nil_of_le (by rw [hlen1]; exact Nat.mul_le_mul_right _ (by omega)), List.nil_append, List.drop_drop, hlen1]
      congr 1
      have : (j + 1 + vs.length) * size = (j + 1) * size + vs.length * size := by rw [Nat.add_mul]
      have : (j + (vs.length + 1)) * size = j * size + size + vs.length * size := by rw [Nat.add_mul, Nat.succ_mul]; omega
      have : (j + 1) * size = j * size + size := Nat.succ_mul _ _
      omega
    simp only [e1, e2]
    simp

theorem lit_sound (h : SimC B src c ow st a w) (hsrc : ∀ b, B ≤ b → src b) {d : Nat} (hdst : o.dst = some d) (hd : d < a.tmps.size) {t : TypeId} {len : Nat} {ps : Array (Nat × Operand)} {st' : St} {obs : List Prop} (hop : o.op = .buildSlice t len ps) (hv : mLit P st d t len ps.toList = some (st', obs)) (ho : Ob obs)
    {K : Act → World → Prop} {Q : Exit → Act → World → Prop} (hK : ∀ v w', Sim B src st' (a.put (some d) v) w' → Below w.heap.size w w' → K (a.put (some d) v) w') : o.wp P a w K Q := by
  unfold mLit at hv
  split at hv
  · rename_i e ht
    split at hv
    · rename_i i hi
      split at hv
      · rename_i es ids dp os hl
        split at hv
        · rename_i hcond
          obtain ⟨c1, c2, c3, c4, c5⟩ := hcond
          injection hv with hv
          injection hv with e1 e2
          subst e1 e2
          have hnd := nodupB_sound c5
          obtain ⟨vss, F, q1, q2, q3, q4, q5, q6, q7⟩ := litEls_sound h hl ho hnd
          have hplen : ps.toList.length = len := by have := congrArg List.length c2; simpa using this
          obtain ⟨z, hz⟩ := Option.isSome_iff_exists.1 c4
          obtain ⟨t1, t2⟩ := q6.frozen h hsrc (fun r hr => hr) q7
          have hlay := layRow_sound (e := e) (h.freezeAll hsrc ids) hsrc hd c1 q2 (by
            rw [q4, hplen]
            have : len ≤ len * i.size := Nat.le_mul_of_pos_right _ c1
            simp [maxLen]; omega) q5 t1 t2
          have hes : es.length = len := by rw [q4, hplen]
          rw [hes] at hlay
          have hvals : (ps.toList.map fun p => (p.1, a.eval p.2)) = (List.range' 0 (ps.toList.map fun p => a.eval p.2).length).zip (ps.toList.map fun p => a.eval p.2) := by
            rw [List.length_map, hplen, ← List.range_eq_range', ← c2]
            rw [List.zip_map']
          have hfill := fill_seq i.size (ps.toList.map fun p => a.eval p.2) 0 ((Array.range (len * i.size)).map fun x => (if len * i.size = 0 then #[] else z.cells)[x % (if len * i.size = 0 then #[] else z.cells).size]!) (by
            intro v hv
            have h1 : v.cells ∈ (ps.toList.map fun p => a.eval p.2).map Value.cells := List.mem_map.2 ⟨v, hv, rfl⟩
            rw [List.map_map] at h1
            have h2 : v.cells ∈ vss.map List.toArray := by rw [← q1]; exact h1
            obtain ⟨us, hus, he⟩ := List.mem_map.1 h2
            rw [← he]
            simpa using q3 us hus) (by simp [hplen])
          rw [← hvals] at hfill
          have hflat : ((ps.toList.map fun p => a.eval p.2).map fun v => v.cells.toList).flatten = vss.flatten := by
            congr 1
            have : (ps.toList.map fun p => a.eval p.2).map (fun v => v.cells.toList) = (ps.toList.map fun p => (a.eval p.2).cells).map Array.toList := by simp [List.map_map, Function.comp_def]
            rw [this, q1, List.map_map]
            exact List.map_id vss
          rw [hflat] at hfill
          have hdrop : ((Array.range (len * i.size)).map fun x => (if len * i.size = 0 then #[] else z.cells)[x % (if len * i.size = 0 then #[] else z.cells).size]!).toList.drop ((0 + (ps.toList.map fun p => a.eval p.2).length) * i.size) = [] := by
            apply List.drop_eq_nil_of_le
            simp [hplen]
          rw [hdrop] at hfill
          simp only [Nat.zero_mul, List.take_zero, List.nil_append, List.append_nil] at hfill
          unfold Oper.wp
          have hnot : ¬ (len * i.size > 2 ^ 24) := by omega
          have hrun : (execOp a.eval o).run P w = .ok (.value (.slice (some ⟨w.heap.size, 0, none⟩) len len)) (w.alloc (.cells vss.flatten.toArray e (0, 0))) := by
            simp only [execOp, hop, Instr.buildSlice, Sem.run_bind, run_underlying ht, Result.andThen_ok, run_sizeOf hi]
            by_cases h0 : len * i.size = 0
            · have hps : ps.toList = [] := List.length_eq_zero_iff.1 (by rcases Nat.mul_eq_zero.1 h0 with h | h <;> omega)
              have hvs : vss = [] := by
                rw [hps] at q1
                simpa using q1.symm
              have hl0 : len = 0 := by rw [hps] at hplen; simpa using hplen.symm
              subst hvs
              simp [hl0, hps, Instr.fill, newRow, Array.range_zero']
            · simp only [h0, if_false] at hfill ⊢
              simp only [Array.toList_map, zeroValue, typeInfo]
              have h24 : ¬ 16777216 < len * i.size := by omega
              simp [hi, hz, h24, hfill, newRow]
          rw [hrun]
          simp only [Oper.upon, hdst]
          exact hK _ _ hlay ((Below.refl _ _).alloc (Nat.le_refl _) _)
        · cases hv
      · cases hv
    · cases hv
  · cases hv
end
end Go.Ab
