/-
  Facts of the model that the meanings of operations lean on. Over any program. Conditions: those of each theorem.
-/
import Derived.Test.YtdmiboplfgmgiaaW5
import Derived.Maps.AppendAt
set_option linter.unusedVariables false
set_option linter.unusedSectionVars false
namespace Go.V
open Go.Ab Go.RowKit
section
variable {P : Program} {w : World} {a : Act} {o : Oper} {B : Nat}

theorem plain_wrap (k : IntKind) (n : Int) : plain (.int k (k.wrap n)) = true := by
  have h8 : (2 : Int) ^ 8 = 256 := by decide
  have h7 : (2 : Int) ^ 7 = 128 := by decide
  have h16 : (2 : Int) ^ 16 = 65536 := by decide
  have h15 : (2 : Int) ^ 15 = 32768 := by decide
  have h32 : (2 : Int) ^ 32 = 4294967296 := by decide
  have h31 : (2 : Int) ^ 31 = 2147483648 := by decide
  have h64 : (2 : Int) ^ 64 = 18446744073709551616 := by decide
  have h63 : (2 : Int) ^ 63 = 9223372036854775808 := by decide
  cases k <;> simp [plain, IntKind.wrap, IntKind.min, IntKind.max, IntKind.signed, IntKind.bits, h8, h7, h16, h15, h32, h31, h64, h63] <;> (try split) <;> omega

theorem plain_tmod {k : IntKind} {a b : Int} (h : plain (.int k a) = true) : plain (.int k (a.tmod b)) = true := by
  simp only [plain, Bool.and_eq_true, decide_eq_true_eq] at h ⊢
  have h0 : k.min ≤ 0 := by cases k <;> simp [IntKind.min, IntKind.signed, IntKind.bits]
  have h1 : 0 ≤ k.max := by cases k <;> simp [IntKind.max, IntKind.signed, IntKind.bits]
  have h2 : (a.tmod b).natAbs = a.natAbs % b.natAbs := Int.natAbs_tmod a b
  have h3 : a.natAbs % b.natAbs ≤ a.natAbs := Nat.mod_le _ _
  have h4 : 0 ≤ a → 0 ≤ a.tmod b := fun h => Int.tmod_nonneg b h
  have h5 : a ≤ 0 → a.tmod b ≤ 0 := fun h => by
    have := Int.tmod_nonneg b (show 0 ≤ -a by omega)
    rw [Int.neg_tmod] at this
    omega
  omega

theorem plain_len {n : Nat} (h : n ≤ maxLen) : plain (.int .i64 (n : Int)) = true := by
  have h63 : (2 : Int) ^ 63 = 9223372036854775808 := by decide
  simp only [maxLen] at h
  simp [plain, IntKind.min, IntKind.max, IntKind.signed, IntKind.bits, h63]
  omega

def Gives (P : Program) (a : Act) (w : World) (o : Oper) (v : Value) : Prop := ∀ w' : World, (∀ b, b < w.heap.size → w'.heap[b]? = w.heap[b]?) → (execOp a.eval o).run P w' = .ok (.value v) w'

theorem add_eq (b o n : Nat) : (⟨b, o, none⟩ : Addr).add n = ⟨b, o + n, none⟩ := by unfold Addr.add; split <;> simp_all

theorem run_isAgg_struct {P : Program} {t : TypeId} {fs : Array Field} (h : P.underlying t = some (.struct fs)) (w : World) : (isAgg t).run P w = .ok true w := by simp [isAgg, run_underlying h]

theorem run_isAgg_array {P : Program} {t : TypeId} {n : Nat} {e : TypeId} (h : P.underlying t = some (.array n e)) (w : World) : (isAgg t).run P w = .ok true w := by simp [isAgg, run_underlying h]

theorem run_isAgg_other {P : Program} {t : TypeId} {d : TypeDesc} (h : P.underlying t = some d) (h1 : ∀ fs, d ≠ .struct fs) (h2 : ∀ n e, d ≠ .array n e) (w : World) : (isAgg t).run P w = .ok false w := by
  simp only [isAgg, Sem.run_bind, run_underlying h, Result.andThen_ok]
  cases d with
  | struct fs => exact absurd rfl (h1 fs)
  | array n e => exact absurd rfl (h2 n e)
  | _ => rfl

theorem run_sizeOf {P : Program} {t : TypeId} {i : TypeInfo} (h : P.info? t = some i) (w : World) : (sizeOf t).run P w = .ok i.size w := by simp [sizeOf, typeInfo, h]

theorem run_loadVar_agg {P : Program} {t : TypeId} {i : TypeInfo} {w : World} {ad : Addr} {us : List Value} (ha : (isAgg t).run P w = .ok true w) (hi : P.info? t = some i) (hl : us.length = i.size)
    (hc : ∀ j v, us[j]? = some v → w.cell? (ad.add j) = some v) : (loadVar t ad).run P w = .ok (.agg us.toArray) w := by
  have h1 := run_loadCells_list (P := P) w ad us hc
  rw [hl] at h1
  simp only [loadVar, Sem.run_bind, ha, Result.andThen_ok, if_true, run_sizeOf hi, h1]
  rfl

theorem run_loadVar_one {P : Program} {t : TypeId} {w : World} {ad : Addr} {u : Value} (ha : (isAgg t).run P w = .ok false w) (hc : w.cell? ad = some u) : (loadVar t ad).run P w = .ok u w := by
  simp only [loadVar, Sem.run_bind, ha, Result.andThen_ok, Bool.false_eq_true, if_false]
  simp [load, Sem.run, hc]

theorem run_v {P : Program} {s : Sem Value} {w : World} {v : Value} (h : s.run P w = .ok v w) : (do pure (Next.value (← s)) : Sem Next).run P w = .ok (.value v) w := by
  simp [h]

theorem cells_of_block {w : World} {b : Nat} {vs : List Value} {ty : TypeId} {fz : Nat × Nat} (h : w.heap[b]? = some (.cells vs.toArray ty fz)) (j : Nat) (u : Value) (hu : vs[j]? = some u) : w.cell? ⟨b, 0 + j, none⟩ = some u := by
  simp [World.cell?, h, hu]

theorem run_loadAt {P : Program} {t : TypeId} {ad : Addr} {v : Value} {w : World} (h : (loadVar t ad).run P w = .ok v w) : (Instr.loadAt t (.pointer (some ad))).run P w = .ok v w := by
  simp [Instr.loadAt, Instr.sureAddr, h]

theorem run_eqGuard_plain {op : BinOp} {t : TypeId} {x y : Operand} {u v : Value} (hu : plain u = true) (w : World) : (eqGuard op t x y u v).run P w = .ok () w := by
  cases op <;> cases u <;> first | (simp [plain] at hu; done) | (simp [eqGuard]; done)

theorem run_fieldAt {t : TypeId} {fs : Array Field} {f : Nat} {fd : Field} {i : TypeInfo} (ht : P.underlying t = some (.struct fs)) (hf : fs[f]? = some fd) (hi : P.info? fd.type = some i) (h0 : ¬ i.size = 0) (b off : Nat) (w : World) :
    (Instr.fieldAt t (.pointer (some ⟨b, off, none⟩)) f).run P w = .ok (.pointer (some ⟨b, off + fd.offset, none⟩)) w := by
  simp [Instr.fieldAt, run_underlying ht, hf, Instr.sureAddr, fieldPlace, run_sizeOf hi, h0, add_eq]

theorem run_indexAt_slice {t e : TypeId} {i : TypeInfo} {kd : IntKind} {n : Int} {b off len cap : Nat} (ht : P.underlying t = some (.slice e)) (hi : P.info? e = some i) (h0 : 0 ≤ n) (h1 : n < len) (w : World) :
    (Instr.indexAt t (.slice (some ⟨b, off, none⟩) len cap) (.int kd n)).run P w = .ok (.pointer (some ⟨b, off + n.toNat * i.size, none⟩)) w := by
  simp [Instr.indexAt, asIntOf, run_underlying ht, run_sizeOf hi, h0, h1, add_eq]

theorem _root_.Go.Ab.Rep.elem {v : Value} {es : List (List T)} {F : List Nat} (h : Rep w v (.sl es) F) {i : Nat} {el : List T} (hi : es[i]? = some el) :
    ∃ b off n cap xs G, v = .slice (some ⟨b, off, none⟩) n cap ∧ i < n ∧ b < w.heap.size ∧ b ∈ F ∧ RepL w xs el G ∧ (∀ j u, xs[j]? = some u → w.cell? ⟨b, off + i * el.length + j, none⟩ = some u) ∧ ∀ x ∈ G, x ∈ F := by
  cases h with
  | nil hc => simp at hi
  | @cons b off n cap k es xs F hn h0 hk0 hk hc hm hx hcell hr =>
    have hin : i < es.length := (List.getElem?_eq_some_iff.1 hi).1
    have hel : el.length = k := hk el (List.mem_of_getElem? hi)
    rw [hel]
    obtain ⟨G, H, g1, g2, g3⟩ := hr.take (i * k)
    obtain ⟨G', H', g4, g5, g6⟩ := g2.take k
    rw [flatten_get hk hi] at g4
    have hlt : b < w.heap.size := by
      have hp : 0 < xs.length := by rw [hx]; exact Nat.mul_pos h0 hk0
      exact cell?_lt (hcell 0 xs[0] (List.getElem?_eq_getElem hp))
    refine ⟨b, off, n, cap, _, G', rfl, by omega, hlt, List.mem_cons_self .., g4, fun j u hu => ?_, fun x hx' => List.mem_cons_of_mem _ (by rw [g3, g6]; simp [hx'])⟩
    have hj : xs[i * k + j]? = some u := by
      rw [List.getElem?_take] at hu
      split at hu
      · rw [List.getElem?_drop] at hu; exact hu
      · cases hu
    have := hcell (i * k + j) u hj
    rw [Nat.add_assoc]
    exact this

theorem _root_.Go.Ab.Rep.len {v : Value} {es : List (List T)} {F : List Nat} (h : Rep w v (.sl es) F) : ∃ ad cap, v = .slice ad es.length cap ∧ es.length ≤ maxLen := by
  cases h with
  | nil hc => exact ⟨_, _, rfl, Nat.zero_le _⟩
  | cons hn h0 hk0 hk hc hm hx hcell hr => subst hn; exact ⟨_, _, rfl, Nat.le_trans hc hm⟩

theorem ownsRow_len {e k n : Nat} {v : Value} {xs : List Value} (h : w.ownsRow B e k v n xs) : ∃ ad cap, v = .slice ad n cap ∧ n ≤ maxLen := by
  obtain ⟨_, h2⟩ := h
  rcases h2 with ⟨rfl, rfl⟩ | ⟨g, cap, cur, hv, _, _, h1, h2, _⟩
  · exact ⟨_, _, rfl, Nat.zero_le _⟩
  · exact ⟨_, _, hv, Nat.le_trans h1 h2⟩

theorem exec_len {t : TypeId} {x : Operand} {v : Value} (hop : o.op = .call { callee := .builtin .len, args := #[x], argTypes := #[t] }) (w' : World) (h : ∀ ty, (Builtin.len_ #[t] ty #[a.eval x]).run P w' = .ok v w') : (execOp a.eval o).run P w' = .ok (.value v) w' := by
  simp [execOp, hop, resolve, invoke, builtin, h]

theorem _root_.Go.Ab.RepL.parts {xs : List Value} {ts : List T} {F : List Nat} (h : RepL w xs ts F) (p q : Nat) : ∃ F1 F2 F3, RepL w (xs.take p) (ts.take p) F1 ∧ RepL w ((xs.drop p).take q) ((ts.drop p).take q) F2 ∧ RepL w (xs.drop (p + q)) (ts.drop (p + q)) F3 ∧ F = F1 ++ (F2 ++ F3) := by
  obtain ⟨F1, H, a1, a2, a3⟩ := h.take p
  obtain ⟨F2, F3, b1, b2, b3⟩ := a2.take q
  exact ⟨F1, F2, F3, a1, b1, by simpa [List.drop_drop] using b2, by rw [a3, b3]⟩

theorem _root_.Go.Ab.Rep.cut {v : Value} {es : List (List T)} {F : List Nat} (h : Rep w v (.sl es) F) {k l n : Nat} (hk : ∀ z ∈ es, z.length = k) (hn : l + n ≤ es.length) :
    ∃ ad len cap, v = .slice ad len cap ∧ len = es.length ∧ len ≤ cap ∧ cap ≤ maxLen ∧ ∃ G, Rep w (.slice (if cap = l then ad else ad.map (·.add (l * k))) n (cap - l)) (.sl ((es.drop l).take n)) G ∧ ∀ b ∈ G, b ∈ F := by
  cases h with
  | @nil ad cap hc =>
    refine ⟨ad, 0, cap, rfl, rfl, Nat.zero_le _, hc, [], ?_, by simp⟩
    have : n = 0 := by simp at hn; omega
    subst this
    simpa using Rep.nil (w := w) (a := if cap = l then ad else ad.map (·.add (l * k))) (c := cap - l) (Nat.le_trans (Nat.sub_le _ _) hc)
  | @cons b off len cap k' es xs F hl h0 hk0 hk' hc hm hx hcell hr =>
    refine ⟨some ⟨b, off, none⟩, len, cap, rfl, hl.symm, hc, hm, ?_⟩
    have hkk : k' = k := by
      obtain ⟨x, hx'⟩ := List.exists_mem_of_length_pos (l := es) (by omega)
      rw [← hk' x hx', hk x hx']
    subst hkk
    rcases Nat.eq_zero_or_pos n with h0' | h0'
    · subst h0'
      refine ⟨[], ?_, by simp⟩
      simpa using Rep.nil (w := w) (a := if cap = l then some ⟨b, off, none⟩ else (some (⟨b, off, none⟩ : Addr)).map (·.add (l * k'))) (c := cap - l) (Nat.le_trans (Nat.sub_le _ _) hm)
    · obtain ⟨F1, F2, F3, a1, a2, a3, a4⟩ := hr.parts (l * k') (n * k')
      have hfl : ((es.flatten.drop (l * k')).take (n * k')) = ((es.drop l).take n).flatten := by
        have hd : ∀ (es : List (List T)) (l : Nat), (∀ z ∈ es, z.length = k') → es.flatten.drop (l * k') = (es.drop l).flatten := by
          intro es
          induction es with
          | nil => intro l _; simp
          | cons e es ih =>
            intro l hk
            cases l with
            | zero => simp
            | succ l =>
              have he : e.length = k' := hk e (List.mem_cons_self ..)
              rw [List.flatten_cons, List.drop_succ_cons, ← ih l (fun z hz => hk z (List.mem_cons_of_mem _ hz))]
              have : (l + 1) * k' = e.length + l * k' := by rw [Nat.succ_mul, he]; omega
              rw [this, List.drop_length_add_append]
        have ht : ∀ (es : List (List T)) (n : Nat), (∀ z ∈ es, z.length = k') → es.flatten.take (n * k') = (es.take n).flatten := by
          intro es
          induction es with
          | nil => intro n _; simp
          | cons e es ih =>
            intro n hk
            cases n with
            | zero => simp
            | succ n =>
              have he : e.length = k' := hk e (List.mem_cons_self ..)
              rw [List.flatten_cons, List.take_succ_cons, List.flatten_cons, ← ih n (fun z hz => hk z (List.mem_cons_of_mem _ hz))]
              have : (n + 1) * k' = e.length + n * k' := by rw [Nat.succ_mul, he]; omega
              rw [this, List.take_length_add_append]
        rw [hd es l hk', ht _ n (fun z hz => hk' z (List.mem_of_mem_drop hz))]
      rw [hfl] at a2
      have hcap : ¬ cap = l := by omega
      rw [if_neg hcap]
      refine ⟨b :: F2, ?_, fun x hx' => ?_⟩
      · simp only [Option.map_some, add_eq]
        refine .cons (by simp; omega) h0' hk0 (fun z hz => hk' z (List.mem_of_mem_drop (List.mem_of_mem_take hz))) (by omega) (Nat.le_trans (Nat.sub_le _ _) hm) ?_ (fun j u hu => ?_) a2
        · rw [a2.length, flatten_length (k := k') (fun z hz => hk' z (List.mem_of_mem_drop (List.mem_of_mem_take hz)))]
          congr 1
          simp
          omega
        · have hj : xs[l * k' + j]? = some u := by
            rw [List.getElem?_take] at hu
            split at hu
            · rw [List.getElem?_drop] at hu; exact hu
            · cases hu
          have := hcell _ u hj
          rw [Nat.add_assoc]
          exact this
      · rcases List.mem_cons.1 hx' with rfl | hx'
        · exact List.mem_cons_self ..
        · rw [a4]; exact List.mem_cons_of_mem _ (List.mem_append_right _ (List.mem_append_left _ hx'))

theorem foldl_set (off : Nat) : ∀ (l : List Value) (m : Nat) (cells : Array Value), off + m + l.length ≤ cells.size →
    (l.zipIdx m).foldl (fun cs (x : Value × Nat) => cs.setIfInBounds (off + x.2) x.1) cells = (cells.toList.take (off + m) ++ l ++ cells.toList.drop (off + m + l.length)).toArray
  | [], m, cells, _ => by simp
  | v :: l, m, cells, h => by
    have hl : off + m < cells.size := by simp at h; omega
    rw [List.zipIdx_cons, List.foldl_cons, foldl_set off l (m + 1) _ (by simp at h ⊢; omega)]
    congr 1
    have h1 : (cells.setIfInBounds (off + m) v).toList = cells.toList.set (off + m) v := by simp
    rw [h1]
    have h2 : (cells.toList.set (off + m) v).take (off + (m + 1)) = cells.toList.take (off + m) ++ [v] := by
      rw [← Nat.add_assoc, List.take_succ_eq_append_getElem (by simpa using hl), List.take_set_of_le (Nat.le_refl _)]
      simp
    have h3 : (cells.toList.set (off + m) v).drop (off + (m + 1) + l.length) = cells.toList.drop (off + m + (v :: l).length) := by
      rw [List.drop_set_of_lt (by omega)]
      congr 1
      simp
      omega
    rw [h2, h3]
    simp

theorem places_run : ∀ {fs : List Field} {ps : List (Nat × Nat)}, placesOf P fs = some ps → ∀ w' : World, (fs.mapM fun f => (do pure (f.offset, ← sizeOf f.type) : Sem (Nat × Nat))).run P w' = .ok ps w' := by
  intro fs
  induction fs with
  | nil => intro ps h w'; injection h with h; subst h; rfl
  | cons f fs ih =>
    intro ps h w'
    unfold placesOf at h
    split at h
    · rename_i i ps' h1 h2
      injection h with h
      subst h
      have hh := ih h2 w'
      simp only [List.mapM_cons, Sem.run_bind, run_sizeOf h1, Result.andThen_ok, Sem.run_pure]
      rw [hh]
      rfl
    · cases h

theorem fill_one {place : Nat → Option (Nat × Nat)} {cells : List Value} {i off size : Nat} {v : Value} {rest : List (Nat × Value)} (hp : place i = some (off, size)) (hs : v.cells.size = size) (hl : off + size ≤ cells.length) :
    Instr.fill place cells.toArray ((i, v) :: rest) = Instr.fill place (sp cells off v.cells.toList).toArray rest := by
  rw [Instr.fill]
  simp only [hp, hs, ne_eq, not_true_eq_false, decide_false, Bool.false_or, gt_iff_lt, decide_eq_true_eq]
  rw [if_neg (by simpa using hl)]
  congr 1
  have := foldl_set off v.cells.toList 0 cells.toArray (by simp [hs]; omega)
  rw [← Array.foldl_toList, Array.toList_zipIdx]
  unfold sp
  have h2 : v.cells.toList.length = size := by simpa using hs
  simpa [h2, hs] using this

theorem plain_byte (b : UInt8) : plain (.int .u8 (b.toNat : Int)) = true := by
  have := b.toNat_lt
  simp [plain, IntKind.min, IntKind.max, IntKind.signed, IntKind.bits]
  omega

theorem foldl_push (l : List UInt8) : ∀ s : ByteArray, (l.map fun b => (b.toNat : Int)).foldl (fun (r : ByteArray) (n : Int) => r.push (UInt8.ofNat n.toNat)) s = ⟨s.data ++ l.toArray⟩ := by
  induction l with
  | nil => intro s; simp
  | cons b l ih =>
    intro s
    rw [List.map_cons, List.foldl_cons, ih]
    simp [ByteArray.push]

def bytesT (l : List UInt8) : List (List T) := l.map fun b => [.lit (.int .u8 (b.toNat : Int))]

theorem repL_bytes {l : List UInt8} : ∀ {xs : List Value} {F : List Nat}, RepL w xs (bytesT l).flatten F → xs = l.map fun b => Value.int .u8 (b.toNat : Int) := by
  induction l with
  | nil =>
    intro xs F h
    have : xs.length = 0 := by simpa [bytesT] using h.length
    exact List.length_eq_zero_iff.1 this
  | cons b l ih =>
    intro xs F h
    have he : (bytesT (b :: l)).flatten = .lit (.int .u8 (b.toNat : Int)) :: (bytesT l).flatten := rfl
    rw [he] at h
    cases h with
    | cons h1 h2 =>
      cases h1
      rw [ih h2]
      rfl

end
end Go.V
