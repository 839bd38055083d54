/-
  More facts of the model that the meanings of operations lean on. Over any program. Conditions: those of each theorem.
-/
import Derived.Test.YtdmiboplfgmgiaaWA
set_option linter.unusedVariables false
set_option linter.unusedSectionVars false
namespace Go.V
open Go.Ab Go.RowKit
section
variable {P : Program} {w : World} {a : Act} {o : Oper} {B : Nat}

theorem nodupB_sound : ∀ {l : List Nat}, nodupB l = true → l.Nodup
  | [], _ => List.nodup_nil
  | x :: xs, h => by
    simp only [nodupB, Bool.and_eq_true, Bool.not_eq_true'] at h
    exact List.nodup_cons.2 ⟨by simpa using h.1, nodupB_sound h.2⟩

theorem RepL_replicate {vs : List Value} {ts : List T} (h : RepL w vs ts []) : ∀ n, RepL w (List.replicate n vs).flatten (List.replicate n ts).flatten []
  | 0 => .nil
  | n + 1 => by
    rw [List.replicate_succ, List.replicate_succ, List.flatten_cons, List.flatten_cons]
    exact h.append (RepL_replicate h n)

theorem madeCells_flatten (z : Array Value) (hz : 0 < z.size) : ∀ n, (madeCells z (n * z.size)).toList = (List.replicate n z.toList).flatten := by
  intro n
  apply List.ext_getElem?
  intro j
  induction n generalizing j with
  | zero => simp [madeCells]
  | succ n ih =>
    rw [List.replicate_succ', List.flatten_append, List.flatten_cons, List.flatten_nil, List.append_nil]
    have hlen : (List.replicate n z.toList).flatten.length = n * z.size := by simp [List.length_flatten]
    by_cases hj : j < n * z.size
    · rw [List.getElem?_append_left (by omega), ← ih j]
      simp only [madeCells, Array.toList_map, Array.toList_range, List.getElem?_map]
      rw [List.getElem?_range hj, List.getElem?_range (by rw [Nat.succ_mul]; omega)]
    · rw [List.getElem?_append_right (by omega), hlen]
      simp only [madeCells, Array.toList_map, Array.toList_range, List.getElem?_map]
      by_cases hj2 : j < (n + 1) * z.size
      · rw [List.getElem?_range hj2]
        have hlt : j - n * z.size < z.size := by rw [Nat.succ_mul] at hj2; omega
        have hmod : j % z.size = j - n * z.size := by
          have : j = (j - n * z.size) + z.size * n := by rw [Nat.mul_comm z.size n]; omega
          rw [this, Nat.add_mul_mod_self_left, Nat.mod_eq_of_lt (by omega), ← this]
        simp [hmod, hlt]
      · rw [List.getElem?_eq_none (by simpa using hj2)]
        have : ¬ j - n * z.size < z.size := by rw [Nat.succ_mul] at hj2; omega
        simp [this]

theorem ownsRow_new {e k n : Nat} (cells : List Value) (hB : B ≤ w.heap.size) (hn : n ≤ maxLen) (hl : cells.length = n * k) :
    (w.alloc (.cells cells.toArray e (0, 0))).ownsRow B e k (.slice (some ⟨w.heap.size, 0, none⟩) n n) n cells :=
  ⟨hl, .inr ⟨w.heap.size, n, cells.toArray, rfl, hB, heap_alloc_new w _, Nat.le_refl _, hn, by simpa using hl, by simpa using List.take_of_length_le (Nat.le_of_eq hl)⟩⟩

theorem fill_seq (size : Nat) : ∀ (vs : List Value) (j : Nat) (cells : Array Value), (∀ v ∈ vs, v.cells.size = size) → (j + vs.length) * size ≤ cells.size →
    Instr.fill (fun i => some (i * size, size)) cells ((List.range' j vs.length).zip vs) = some (cells.toList.take (j * size) ++ (vs.map fun v => v.cells.toList).flatten ++ cells.toList.drop ((j + vs.length) * size)).toArray
  | [], j, cells, _, _ => by simp [Instr.fill]
  | v :: vs, j, cells, hv, hle => by
    have hsz : v.cells.size = size := hv v (List.mem_cons_self ..)
    have hle' : (j + 1 + vs.length) * size ≤ cells.size := by rw [show j + 1 + vs.length = j + (v :: vs).length by simp; omega]; exact hle
    have h1 : j * size + size ≤ cells.size := by
      have : (j + 1) * size ≤ (j + 1 + vs.length) * size := Nat.mul_le_mul_right _ (by omega)
      rw [Nat.succ_mul] at this
      omega
    rw [List.length_cons, List.range'_succ, List.zip_cons_cons]
    unfold Instr.fill
    simp only [hsz, ne_eq, not_true_eq_false, decide_false, Bool.false_or]
    have hif : ¬ (j * size + size > cells.size) := by omega
    simp only [gt_iff_lt, decide_eq_true_eq]
    rw [if_neg (by omega)]
    have hfold : (v.cells.zipIdx.foldl (fun cs (x : Value × Nat) => cs.setIfInBounds (j * size + x.2) x.1) cells) = (cells.toList.take (j * size) ++ v.cells.toList ++ cells.toList.drop (j * size + size)).toArray := by
      rw [← Array.foldl_toList, Array.toList_zipIdx]
      have := foldl_set (j * size) v.cells.toList 0 cells (by simpa [hsz] using h1)
      simpa [hsz] using this
    have hfold' : (v.cells.zipIdx.foldl (fun cs x => match x with | (c, j_1) => cs.setIfInBounds (j * size + j_1) c) cells) = (cells.toList.take (j * size) ++ v.cells.toList ++ cells.toList.drop (j * size + size)).toArray := hfold
    rw [hfold']
    have hlen1 : (cells.toList.take (j * size) ++ v.cells.toList).length = (j + 1) * size := by
      rw [List.length_append, List.length_take, Array.length_toList, Array.length_toList, hsz, Nat.succ_mul]
      omega
    rw [fill_seq size vs (j + 1) _ (fun u hu => hv u (List.mem_cons_of_mem _ hu)) (by
      simp only [List.size_toArray, List.length_append, List.length_take, List.length_drop, Array.length_toList, hsz]
      omega)]
    congr 2
    have e1 : (cells.toList.take (j * size) ++ v.cells.toList ++ cells.toList.drop (j * size + size)).take ((j + 1) * size) = cells.toList.take (j * size) ++ v.cells.toList := by
      rw [← hlen1, List.take_left]
    have e2 : (cells.toList.take (j * size) ++ v.cells.toList ++ cells.toList.drop (j * size + size)).drop ((j + 1 + vs.length) * size) = cells.toList.drop ((j + (vs.length + 1)) * size) := by
      rw [List.drop_append, List.drop_eq_nil_of_le (by rw [hlen1]; exact Nat.mul_le_mul_right _ (by omega)), List.nil_append, List.drop_drop, hlen1]
      congr 1
      have : (j + 1 + vs.length) * size = (j + 1) * size + vs.length * size := by rw [Nat.add_mul]
      have : (j + (vs.length + 1)) * size = j * size + size + vs.length * size := by rw [Nat.add_mul, Nat.succ_mul]; omega
      have : (j + 1) * size = j * size + size := Nat.succ_mul _ _
      omega
    simp only [e1, e2]
    simp

theorem flatten_set {k : Nat} : ∀ {es : List (List T)} {i : Nat} {el' : List T}, (∀ x ∈ es, x.length = k) → i < es.length → el'.length = k → (es.set i el').flatten = sp es.flatten (i * k) el'
  | [], i, el', _, hi, _ => by simp at hi
  | e :: es, 0, el', hk, _, hl => by
    have he : e.length = k := hk e (List.mem_cons_self ..)
    simp [sp, hl, ← he]
  | e :: es, i + 1, el', hk, hi, hl => by
    have he : e.length = k := hk e (List.mem_cons_self ..)
    have ih := flatten_set (es := es) (i := i) (el' := el') (fun x hx => hk x (List.mem_cons_of_mem _ hx)) (by simpa using hi) hl
    rw [List.set_cons_succ, List.flatten_cons, ih, List.flatten_cons]
    unfold sp
    have h1 : (i + 1) * k = e.length + i * k := by rw [Nat.succ_mul, he]; omega
    rw [h1, List.take_length_add_append, Nat.add_assoc, List.drop_length_add_append]
    simp

theorem sp_length {α : Type} {L cs : List α} {off : Nat} (h : off + cs.length ≤ L.length) : (sp L off cs).length = L.length := by
  unfold sp
  simp
  omega

theorem sp_sp {L el ts : List T} {p k off : Nat} (hel : el = (L.drop p).take k) (hp : p + k ≤ L.length) (ho : off + ts.length ≤ k) : sp L p (sp el off ts) = sp L (p + off) ts := by
  have hel' : el.length = k := by rw [hel]; simp; omega
  have hsl : (sp el off ts).length = k := by rw [sp_length (by omega)]; exact hel'
  unfold sp at hsl ⊢
  rw [hsl]
  have e1 : el.take off = (L.drop p).take off := by rw [hel, List.take_take]; congr 1; omega
  have e2 : el.drop (off + ts.length) = ((L.drop p).drop (off + ts.length)).take (k - (off + ts.length)) := by rw [hel, List.drop_take]
  rw [e1, e2]
  have e3 : L.take (p + off) = L.take p ++ (L.drop p).take off := List.take_add
  rw [e3]
  have e4 : L.drop (p + off + ts.length) = ((L.drop p).drop (off + ts.length)).take (k - (off + ts.length)) ++ L.drop (p + k) := by
    rw [List.drop_drop]
    have : L.drop (p + k) = (L.drop (p + (off + ts.length))).drop (k - (off + ts.length)) := by
      rw [List.drop_drop]; congr 1; omega
    rw [this, List.take_append_drop]
    congr 1
    omega
  rw [e4]
  simp

theorem rep_one {v : Value} {t : T} {F : List Nat} (h : Rep w v t F) : v.oneCell' = true := by
  cases h with
  | lit hp => cases v <;> simp [plain] at hp <;> rfl
  | nil hc => rfl
  | cons hn h0 hk0 hk hc hm hx hcell hr => rfl

theorem repL_one {vs : List Value} {ts : List T} {F : List Nat} (h : RepL w vs ts F) : ∀ u ∈ vs, u.oneCell' = true := by
  induction vs generalizing ts F with
  | nil => simp
  | cons v vs ih =>
    cases h with
    | cons h hs =>
      intro u hu
      rcases List.mem_cons.1 hu with rfl | hu
      · exact rep_one h
      · exact ih hs u hu

theorem run_app_nil {t ty e : TypeId} {i : TypeInfo} {k n : Nat} (ht : P.underlying t = some (.slice e)) (hi : P.info? e = some i) {v : Value} {xs : List Value} (hown : w.ownsRow B e k v n xs) (c : Nat) : (Builtin.append_ #[t, t] ty #[v, .slice none 0 c]).run P w = .ok v w := by
  rcases hown.2 with ⟨rfl, rfl⟩ | ⟨g, cap, cur, rfl, _, _, hnc, _⟩
  · simp [Builtin.append_, run_underlying ht, sizeOf, typeInfo, hi, Builtin.lenOf, Builtin.firstCells]
  · simp [Builtin.append_, run_underlying ht, sizeOf, typeInfo, hi, Builtin.lenOf, Builtin.firstCells, hnc, storeCells]

theorem run_app {t ty e : TypeId} {i : TypeInfo} {z : Value} {n : Nat} (ht : P.underlying t = some (.slice e)) (hi : P.info? e = some i) (hz : i.zero = some z) (hzs : z.cells.size = i.size) (h0 : 0 < i.size) {v u : Value} {xs : List Value} {es : List (List T)} {F : List Nat}
    (hown : w.ownsRow B e i.size v n xs) (hu : Rep w u (.sl es) F) (hk : ∀ x ∈ es, x.length = i.size) (hle : (n + es.length) * (i.bytes + 1) ≤ 140737488355328) (hB : B ≤ w.heap.size) :
    ∃ v' w' news G, (Builtin.append_ #[t, t] ty #[v, u]).run P w = .ok v' w' ∧ w'.ownsRow B e i.size v' (n + es.length) (xs ++ news) ∧ w.grownBy w' v.ownBlock ∧ (v'.ownBlock = v.ownBlock ∨ v'.ownBlock = some w.heap.size) ∧ RepL w news es.flatten G ∧ (∀ b ∈ G, b ∈ F) ∧ (F.Nodup → G.Nodup) := by
  have hle1 : (n + es.length) * i.bytes ≤ 140737488355328 := Nat.le_trans (Nat.mul_le_mul_left _ (Nat.le_succ _)) hle
  have hle2 : n + es.length ≤ maxLen := by
    have : n + es.length ≤ (n + es.length) * (i.bytes + 1) := Nat.le_mul_of_pos_right _ (Nat.succ_pos _)
    simp only [maxLen]
    omega
  cases hu with
  | @nil A cc hc =>
    cases A with
    | none => exact ⟨v, w, [], [], run_app_nil ht hi hown cc, by simpa using hown, World.grownBy.refl w _, .inl rfl, by simpa using .nil, by simp, fun _ => List.nodup_nil⟩
    | some ad =>
      obtain ⟨v', w', g1, g2, g3, _, g5⟩ := run_append_own_at (P := P) w B t ty e i z i.size i.bytes ht hi hz rfl rfl hzs h0 v n xs hown ad 0 cc [] (by simp) (by simp) (by simp) (by simpa using hle2) (by simpa using hle1) hB
      exact ⟨v', w', [], [], g1, g2, g3, g5, by simpa using .nil, by simp, fun _ => List.nodup_nil⟩
  | @cons b off m cc k es news F hn hp hk0 hk' hc hm hx hcell hr =>
    subst hn
    have hkk : k = i.size := by
      obtain ⟨x, hx⟩ := List.exists_mem_of_length_pos hp
      rw [← hk' x hx, hk x hx]
    subst hkk
    obtain ⟨v', w', g1, g2, g3, _, g5⟩ := run_append_own_at (P := P) w B t ty e i z i.size i.bytes ht hi hz rfl rfl hzs h0 v n xs hown ⟨b, off, none⟩ es.length cc news hx (fun j u hu => by rw [add_eq]; exact hcell j u hu) (repL_one hr) hle2 hle1 hB
    exact ⟨v', w', news, F, g1, g2, g3, g5, hr, fun b hb => List.mem_cons_of_mem _ hb, fun h => (List.nodup_cons.1 h).2⟩

def _root_.Go.Ab.T.isSl : T → Bool
  | .sl _ => true
  | _ => false

theorem _root_.Go.Ab.Rep.noSl {t : T} {v : Value} {F : List Nat} (h : Rep w v t F) (ht : t.isSl = false) : F = [] := by
  cases h with
  | lit hp => rfl
  | nil hc => cases ht
  | cons hn h0 hk0 hk hc hm hx hcell hr => cases ht

theorem _root_.Go.Ab.RepL.noSl {ts : List T} {vs : List Value} {F : List Nat} (h : RepL w vs ts F) (ht : ts.any T.isSl = false) : F = [] := by
  induction vs generalizing ts F with
  | nil => cases h; rfl
  | cons v vs ih =>
    cases h with
    | cons h hs =>
      simp only [List.any_cons, Bool.or_eq_false_iff] at ht
      rw [h.noSl ht.1, ih hs ht.2]
      rfl

theorem RepL_noSl {es : List (List T)} (h : ∀ x ∈ es, x.any T.isSl = false) : es.flatten.any T.isSl = false := by
  rw [List.any_eq_false]
  intro t ht
  obtain ⟨x, hx, hm⟩ := List.mem_flatten.1 ht
  have := List.any_eq_false.1 (h x hx) t hm
  exact this

theorem _root_.Go.Ab.RepL.sp {xs us : List Value} {ts ts' : List T} {F G : List Nat} (h : RepL w xs ts F) (h' : RepL w us ts' G) (off : Nat) : ∃ F1 F3, RepL w (sp xs off us) (sp ts off ts') (F1 ++ G ++ F3) ∧ (∀ b ∈ F1 ++ F3, b ∈ F) ∧ (F.Nodup → (F1 ++ F3).Nodup) := by
  unfold Go.V.sp
  rw [h'.length]
  obtain ⟨F1, F2, F3, a1, a2, a3, a4⟩ := h.parts off ts'.length
  refine ⟨F1, F3, (a1.append h').append a3, ?_, ?_⟩
  · intro b hb
    rw [a4]
    rcases List.mem_append.1 hb with hb | hb
    · exact List.mem_append_left _ hb
    · exact List.mem_append_right _ (List.mem_append_right _ hb)
  · intro hnd
    rw [a4] at hnd
    obtain ⟨n1, n2, n3⟩ := List.nodup_append.1 hnd
    exact List.nodup_append.2 ⟨n1, (List.nodup_append.1 n2).2.1, fun x hx y hy => n3 x hx y (List.mem_append_right _ hy)⟩

end
end Go.V
