/-
  Value operations, the rest of them, and the join of all: what 'valOp' says the model gives. Over any program. Conditions: the obligations that the abstract operation lists.
-/
import Derived.Test.YtdmiboplfgmgiaaAb5
namespace Go.Ab
open Go.RowKit
section
variable {B : Nat} {src : Nat → Prop} {c : Cx} {ow : Nat → Option Nat} {st : St} {a : Act} {w : World} {P : Program} {o : Oper}

theorem not_sound (h : SimC B src c ow st a w) {t : TypeId} {x : Operand} {s : Slot} {obs : List Prop} (hop : o.op = .unOp .not t x) (hv : vNot st x = some (s, obs)) (ho : Ob obs) :
    ∃ v, RelS c w (okB src c st.ob) v s ∧ Gives P a w o v := by
  unfold vNot at hv
  split at hv
  · rename_i b ob hx
    injection hv with hv
    injection hv with e1 e2
    subst e1 e2
    obtain ⟨ex, _⟩ := h.getT hx ho
    exact ⟨.bool (!b), ⟨rfl, rfl⟩, fun w' _ => by simp [execOp, hop, ex, Op.unary]⟩
  · cases hv

theorem conv_sound (h : SimC B src c ow st a w) {t d : TypeId} {x : Operand} {s : Slot} {obs : List Prop} (hop : o.op = .convert t d x) (hv : vConv P st t d x = some (s, obs)) (ho : Ob obs) :
    ∃ v, RelS c w (okB src c st.ob) v s ∧ Gives P a w o v := by
  unfold vConv at hv
  split at hv
  · rename_i k0 n ob ds k hx hs hd
    injection hv with hv
    injection hv with e1 e2
    subst e1 e2
    obtain ⟨ex, _⟩ := h.getT hx ho
    exact ⟨.int k (k.wrap n), ⟨rfl, plain_wrap k n⟩, fun w' _ => by simp [execOp, hop, ex, convert, run_underlying hs, run_underlying hd, Conv.intToInt]⟩
  · cases hv

theorem run_fieldAt {t : TypeId} {fs : Array Field} {f : Nat} {fd : Field} {i : TypeInfo} (ht : P.underlying t = some (.struct fs)) (hf : fs[f]? = some fd) (hi : P.info? fd.type = some i) (h0 : ¬ i.size = 0) (b off : Nat) (w : World) :
    (Instr.fieldAt t (.pointer (some ⟨b, off, none⟩)) f).run P w = .ok (.pointer (some ⟨b, off + fd.offset, none⟩)) w := by
  simp [Instr.fieldAt, run_underlying ht, hf, Instr.sureAddr, fieldPlace, run_sizeOf hi, h0, add_eq]

theorem field_sound (h : SimC B src c ow st a w) {t : TypeId} {x : Operand} {f : Nat} {s : Slot} {obs : List Prop} (hop : o.op = .fieldAddr t x f) (hv : vField P st t x f = some (s, obs)) (ho : Ob obs) :
    ∃ v, RelS c w (okB src c st.ob) v s ∧ Gives P a w o v := by
  unfold vField at hv
  split at hv
  · rename_i fs ht
    split at hv
    · rename_i fd hf
      split at hv
      · rename_i i hi
        split at hv
        · cases hv
        · rename_i h0
          split at hv
          · rename_i ob off ox hx
            injection hv with hv
            injection hv with e1 e2
            subst e1 e2
            have ex : a.eval x = .pointer (some ⟨c.loc ob, off, none⟩) := h.getT hx ho
            refine ⟨.pointer (some ⟨c.loc ob, off + fd.offset, none⟩), rfl, fun w' _ => ?_⟩
            simp only [execOp, hop, ex]
            exact run_v (run_fieldAt ht hf hi h0 _ _ w')
          · rename_i e off ox hx
            injection hv with hv
            injection hv with e1 e2
            subst e1 e2
            obtain ⟨b, base, ex, h1, h2, xs, F, h3, h4, h5⟩ := h.getT hx ho
            refine ⟨.pointer (some ⟨b, base + (off + fd.offset), none⟩), ⟨b, base, rfl, h1, h2, xs, F, h3, h4, h5⟩, fun w' _ => ?_⟩
            simp only [execOp, hop, ex, ← Nat.add_assoc]
            exact run_v (run_fieldAt ht hf hi h0 _ _ w')
          · rename_i r k j off ox hx
            injection hv with hv
            injection hv with e1 e2
            subst e1 e2
            obtain ⟨g, n, cap, h1, ex⟩ := h.getT hx ho
            refine ⟨.pointer (some ⟨g, j * k + (off + fd.offset), none⟩), ⟨g, n, cap, h1, rfl⟩, fun w' _ => ?_⟩
            simp only [execOp, hop, ex, ← Nat.add_assoc]
            exact run_v (run_fieldAt ht hf hi h0 _ _ w')
          · cases hv
      · cases hv
    · cases hv
  · cases hv

theorem run_indexAt_slice {t e : TypeId} {i : TypeInfo} {kd : IntKind} {n : Int} {b off len cap : Nat} (ht : P.underlying t = some (.slice e)) (hi : P.info? e = some i) (h0 : 0 ≤ n) (h1 : n < len) (w : World) :
    (Instr.indexAt t (.slice (some ⟨b, off, none⟩) len cap) (.int kd n)).run P w = .ok (.pointer (some ⟨b, off + n.toNat * i.size, none⟩)) w := by
  simp [Instr.indexAt, asIntOf, run_underlying ht, run_sizeOf hi, h0, h1, add_eq]

/-- The element at an index of a slice. -/
theorem Rep.elem {v : Value} {es : List (List T)} {F : List Nat} (h : Rep w v (.sl es) F) {i : Nat} {el : List T} (hi : es[i]? = some el) :
    ∃ b off n cap xs G, v = .slice (some ⟨b, off, none⟩) n cap ∧ i < n ∧ b < w.heap.size ∧ b ∈ F ∧ RepL w xs el G ∧ (∀ j u, xs[j]? = some u → w.cell? ⟨b, off + i * el.length + j, none⟩ = some u) ∧ ∀ x ∈ G, x ∈ F := by
  cases h with
  | nil hc => simp at hi
  | @cons b off n cap k es xs F hn h0 hk0 hk hc hm hx hcell hr =>
    have hin : i < es.length := (List.getElem?_eq_some_iff.1 hi).1
    have hel : el.length = k := hk el (List.mem_of_getElem? hi)
    rw [hel]
    obtain ⟨G, H, g1, g2, g3⟩ := hr.take (i * k)
    obtain ⟨G', H', g4, g5, g6⟩ := g2.take k
    rw [flatten_get hk hi] at g4
    have hlt : b < w.heap.size := by
      have hp : 0 < xs.length := by rw [hx]; exact Nat.mul_pos h0 hk0
      exact cell?_lt (hcell 0 xs[0] (List.getElem?_eq_getElem hp))
    refine ⟨b, off, n, cap, _, G', rfl, by omega, hlt, List.mem_cons_self .., g4, fun j u hu => ?_, fun x hx' => List.mem_cons_of_mem _ (by rw [g3, g6]; simp [hx'])⟩
    have hj : xs[i * k + j]? = some u := by
      rw [List.getElem?_take] at hu
      split at hu
      · rw [List.getElem?_drop] at hu; exact hu
      · cases hu
    have := hcell (i * k + j) u hj
    rw [Nat.add_assoc]
    exact this

theorem index_sound (h : SimC B src c ow st a w) {hn : Option Hint} {t : TypeId} {x i : Operand} {s : Slot} {obs : List Prop} (hop : o.op = .indexAddr t x i) (hv : vIndex P hn st t x i = some (s, obs)) (ho : Ob obs) :
    ∃ v, RelS c w (okB src c st.ob) v s ∧ Gives P a w o v := by
  unfold vIndex at hv
  split at hv
  · rename_i e ht
    split at hv
    · rename_i inf es ox kd n oi hi hx hix
      split at hv
      · rename_i el
        split at hv
        · rename_i hk
          injection hv with hv
          injection hv with e1 e2
          subst e1 e2
          obtain ⟨p1, p2, p3⟩ := ho
          obtain ⟨p3, p4⟩ := Ob_append p3
          obtain ⟨F, hr, hF⟩ := h.getT hx p3
          obtain ⟨ei, _⟩ := h.getT hix p4
          obtain ⟨b, off, len, cap, xs, G, hve, hlt, hb, hbF, g1, g2, g3⟩ := hr.elem p2
          rw [hk] at g2
          refine ⟨.pointer (some ⟨b, off + n.toNat * inf.size, none⟩), ⟨b, off + n.toNat * inf.size, by simp, hF b hbF, hb, xs, G, g1, g2, fun x hx => hF x (g3 x hx)⟩, fun w' _ => ?_⟩
          simp only [execOp, hop, hve, ei]
          exact run_v (run_indexAt_slice ht hi p1 (by omega) w')
        · cases hv
      · cases hv
    · rename_i inf r ox kd n oi hi hx hix
      split at hv
      · rename_i e' k es deep hrow
        split at hv
        · rename_i hk
          injection hv with hv
          injection hv with e1 e2
          subst e1 e2 hk
          obtain ⟨p1, p2, p3⟩ := ho
          obtain ⟨p3, p4⟩ := Ob_append p3
          have hxv : a.eval x = c.rv r := h.getT hx p3
          obtain ⟨ei, _⟩ := h.getT hix p4
          obtain ⟨r0, r1, r2, xs, F, r3, _⟩ := h.ob _ _ (row_mem hrow)
          obtain ⟨hl, hr⟩ := r3
          rcases hr with ⟨_, h0⟩ | ⟨g, cap, cur, hrv, _⟩
          · omega
          · refine ⟨.pointer (some ⟨g, n.toNat * inf.size, none⟩), ⟨g, es.length, cap, hrv, by simp⟩, fun w' _ => ?_⟩
            simp only [execOp, hop, hxv, hrv, ei]
            have := run_indexAt_slice (b := g) (off := 0) (cap := cap) (len := es.length) (kd := kd) ht hi p1 p2 w'
            rw [Nat.zero_add] at this
            exact run_v this
        · cases hv
      · cases hv
    · cases hv
  · cases hv

theorem Rep.len {v : Value} {es : List (List T)} {F : List Nat} (h : Rep w v (.sl es) F) : ∃ ad cap, v = .slice ad es.length cap ∧ es.length ≤ maxLen := by
  cases h with
  | nil hc => exact ⟨_, _, rfl, Nat.zero_le _⟩
  | cons hn h0 hk0 hk hc hm hx hcell hr => subst hn; exact ⟨_, _, rfl, Nat.le_trans hc hm⟩
theorem ownsRow_len {e k n : Nat} {v : Value} {xs : List Value} (h : w.ownsRow B e k v n xs) : ∃ ad cap, v = .slice ad n cap ∧ n ≤ maxLen := by
  obtain ⟨_, h2⟩ := h
  rcases h2 with ⟨rfl, rfl⟩ | ⟨g, cap, cur, hv, _, _, h1, h2, _⟩
  · exact ⟨_, _, rfl, Nat.zero_le _⟩
  · exact ⟨_, _, hv, Nat.le_trans h1 h2⟩

theorem run_len_slice {t e : TypeId} (ht : P.underlying t = some (.slice e)) (ad : Option Addr) (n cap : Nat) (w : World) : (Builtin.len_ #[t] 0 #[.slice ad n cap]).run P w = .ok (.int .i64 (n : Int)) w := by
  simp [Builtin.len_, run_underlying ht, goInt]

theorem exec_len {t : TypeId} {x : Operand} {v : Value} (hop : o.op = .call { callee := .builtin .len, args := #[x], argTypes := #[t] }) (w' : World) (h : ∀ ty, (Builtin.len_ #[t] ty #[a.eval x]).run P w' = .ok v w') : (execOp a.eval o).run P w' = .ok (.value v) w' := by
  simp [execOp, hop, resolve, invoke, builtin, h]

theorem len_sound (h : SimC B src c ow st a w) {t : TypeId} {x : Operand} {s : Slot} {obs : List Prop} (hop : o.op = .call { callee := .builtin .len, args := #[x], argTypes := #[t] }) (hv : vLen P st t x = some (s, obs)) (ho : Ob obs) :
    ∃ v, RelS c w (okB src c st.ob) v s ∧ Gives P a w o v := by
  unfold vLen at hv
  split at hv
  · rename_i e es ob ht hx
    injection hv with hv
    injection hv with e1 e2
    subst e1 e2
    obtain ⟨F, hr, hF⟩ := h.getT hx ho
    obtain ⟨ad, cap, hve, hm⟩ := hr.len
    refine ⟨.int .i64 (es.length : Int), ⟨rfl, plain_len hm⟩, fun w' _ => exec_len hop w' fun ty => ?_⟩
    rw [hve]
    simp [Builtin.len_, run_underlying ht, goInt]
  · rename_i e ob ht hx
    injection hv with hv
    injection hv with e1 e2
    subst e1 e2
    have hve : a.eval x = .slice none 0 0 := h.getT hx ho
    refine ⟨.int .i64 0, ⟨rfl, by decide⟩, fun w' _ => exec_len hop w' fun ty => ?_⟩
    rw [hve]
    simp [Builtin.len_, run_underlying ht, goInt]
  · rename_i e r ob ht hx
    split at hv
    · rename_i e' k es deep hrow
      injection hv with hv
      injection hv with e1 e2
      subst e1 e2
      have hve : a.eval x = c.rv r := h.getT hx ho
      obtain ⟨r0, r1, r2, xs, F, r3, _⟩ := h.ob _ _ (row_mem hrow)
      obtain ⟨ad, cap, hrv, hm⟩ := ownsRow_len r3
      refine ⟨.int .i64 (es.length : Int), ⟨rfl, plain_len hm⟩, fun w' _ => exec_len hop w' fun ty => ?_⟩
      rw [hve, hrv]
      simp [Builtin.len_, run_underlying ht, goInt]
    · cases hv
  · rename_i sb ob ht hx
    injection hv with hv
    injection hv with e1 e2
    subst e1 e2
    obtain ⟨hve, hp⟩ := h.getT hx ho
    refine ⟨.int .i64 (sb.size : Int), ⟨rfl, plain_len (by simpa [plain] using hp)⟩, fun w' _ => exec_len hop w' fun ty => ?_⟩
    rw [hve]
    simp [Builtin.len_, run_underlying ht, goInt]
  · cases hv

theorem ext_sound (h : SimC B src c ow st a w) {x : Operand} {i : Nat} {s : Slot} {obs : List Prop} (hop : o.op = .extract x i) (hv : vExt st x i = some (s, obs)) (ho : Ob obs) :
    ∃ v, RelS c w (okB src c st.ob) v s ∧ Gives P a w o v := by
  unfold vExt at hv
  split at hv
  · rename_i g xs hx
    obtain ⟨y, hy, he⟩ := Option.map_eq_some_iff.1 hv
    injection he with e1 e2
    subst e1 e2
    obtain ⟨vs, hve, ha⟩ := h.getOn hx ho
    obtain ⟨v, hv', hr⟩ := ha.get hy
    refine ⟨v, hr, fun w' _ => ?_⟩
    simp [execOp, hop, hve, Instr.extract, hv']
  · cases hv

theorem valOp_sound (h : SimC B src c ow st a w) {hn : Option Hint} {s : Slot} {obs : List Prop} (hv : valOp P hn st o.op = some (s, obs)) (ho : Ob obs) : ∃ v, RelS c w (okB src c st.ob) v s ∧ Gives P a w o v := by
  unfold valOp at hv
  split at hv
  · exact move_sound h (.inl ‹_›) hv ho
  · exact move_sound h (.inr ‹_›) hv ho
  · exact pick_sound h ‹_› hv ho
  · exact load_sound h ‹_› hv ho
  · exact nil_sound h ‹_› hv ho
  · exact bin_sound h ‹_› hv ho
  · exact not_sound h ‹_› hv ho
  · exact conv_sound h ‹_› hv ho
  · exact field_sound h ‹_› hv ho
  · exact index_sound h ‹_› hv ho
  · rename_i cl hop
    unfold vCall at hv
    split at hv
    · rename_i x t h1 h2 h3
      refine len_sound h ?_ hv ho
      rw [hop]
      congr 1
      obtain ⟨cal, ar, ty⟩ := cl
      simp only at h1 h2 h3
      obtain ⟨ar⟩ := ar
      obtain ⟨ty⟩ := ty
      simp only at h2 h3
      subst h1 h2 h3
      rfl
    · cases hv
  · exact ext_sound h ‹_› hv ho
  · cases hv
end
end Go.Ab
