/-
  Operations that leave a value, the rest of them, and their join. Over any program. Conditions: none beyond the meaning.
-/
import Derived.Test.YtdmiboplfgmgiaaW7
set_option linter.unusedVariables false
set_option linter.unusedSectionVars false
namespace Go.V
open Go.Ab Go.RowKit

section
variable {M src : Nat → Prop} {c : Cx} {ow : Nat → Option Nat} {f : F} {a : Act} {w : World} {P : Program} {o : Oper} {ok : Nat → Prop} {R : Type}

theorem toNat_lt' {n : Int} {m : Nat} (h0 : 0 ≤ n) (h1 : n < (m : Int)) : n.toNat < m := by omega
theorem no_room {n : Int} {m : Nat} (h0 : 0 ≤ n) (h1 : n < (m : Int)) (hm : m = 0) : False := by omega
theorem plain_fdiv {k : IntKind} {x : Int} (h : plain (.int k x) = true) (n : Nat) : plain (.int k (x.fdiv (2 ^ n))) = true := by
  simp only [plain, Bool.and_eq_true, decide_eq_true_eq] at h ⊢
  have h0 : k.min ≤ 0 := by cases k <;> simp [IntKind.min, IntKind.signed, IntKind.bits]
  have h1 : 0 ≤ k.max := by cases k <;> simp [IntKind.max, IntKind.signed, IntKind.bits]
  have hp : (0 : Int) < 2 ^ n := Int.pow_pos (by decide)
  have e : x.fdiv (2 ^ n) = x / 2 ^ n := Int.fdiv_eq_ediv_of_nonneg _ (Int.le_of_lt hp)
  rw [e]
  rcases Int.lt_or_le x 0 with hx | hx
  · have h2 : x / 2 ^ n < 0 := Int.ediv_neg_of_neg_of_pos hx hp
    have h3 : x ≤ x / 2 ^ n := by
      have h4 : x / 2 ^ n * 2 ^ n ≤ x := Int.ediv_mul_le x (by omega)
      have h5 := Int.lt_ediv_add_one_mul_self x hp
      have h6 : (1 : Int) ≤ 2 ^ n := hp
      have h7 : x / 2 ^ n + 1 ≤ 0 := by omega
      have h8 : (x / 2 ^ n + 1) * 2 ^ n ≤ (x / 2 ^ n + 1) * 1 := Int.mul_le_mul_of_nonpos_left h7 h6
      omega
    omega
  · have h2 : 0 ≤ x / 2 ^ n := Int.ediv_nonneg hx (Int.le_of_lt hp)
    have h3 : x / 2 ^ n ≤ x := Int.ediv_le_self _ hx
    omega

theorem bin_sound (h : SimC M src c ow f a w) {op : BinOp} {t t' : TypeId} {x y : Operand} {K : S → Option R} {r : R} {cx cy : C} (hop : o.op = .binOp op t x y t') (hx : f.getC x = some cx) (hy : f.getC y = some cy) (hv : cBin P op t (fun c => K (.val (.one c))) cx cy = some r) : ∃ s, Val P src c ow f a w o s ∧ K s = some r := by
  have rx := h.getC hx
  have ry := h.getC hy
  suffices hs : ∃ z, (∃ v, RelC c ow w (okB src c ow f.ob) v z ∧ ∀ w', (binOp op t (a.eval x) (a.eval y)).run P w' = .ok v w' ∧ plain (a.eval x) = true) ∧ K (.val (.one z)) = some r by
    obtain ⟨z, ⟨v, hvr, hrun⟩, hk⟩ := hs
    refine ⟨_, ?_, hk⟩
    refine ⟨v, hvr, fun w' _ => ?_⟩
    simp only [execOp, hop]
    simp [run_eqGuard_plain (P := P) (hrun w').2, (hrun w').1]
  unfold cBin at hv
  split at hv
  · rename_i k m k' n
    obtain ⟨ex, px⟩ := RelC_int rx
    obtain ⟨ey, py⟩ := RelC_int ry
    rw [ex, ey]
    split at hv
    · rcases cond_some hv with ⟨_, hv⟩ | ⟨h0, hv⟩
      · cases hv
      · have h0' : ¬ n < 0 := by simpa using h0
        refine ⟨_, ⟨_, mkC_wrap (c := c) (ow := ow) _ _, fun w' => ⟨?_, px⟩⟩, hv⟩
        simp [binOp, Op.shift, h0']
    · rcases cond_some hv with ⟨_, hv⟩ | ⟨h0, hv⟩
      · cases hv
      · have h0' : ¬ n < 0 := by simpa using h0
        refine ⟨_, ⟨_, mkC_int (c := c) (ow := ow) (plain_fdiv px _), fun w' => ⟨?_, px⟩⟩, hv⟩
        simp [binOp, Op.shift, h0']
    · rename_i hs1 hs2
      split at hv
      · rename_i hk
        subst hk
        unfold intBin at hv
        split at hv <;> first | (cases hv; done) | skip
        · exact ⟨_, ⟨_, mkC_wrap (c := c) (ow := ow) _ _, fun w' => ⟨by simp [binOp, Op.intArith], px⟩⟩, hv⟩
        · exact ⟨_, ⟨_, mkC_wrap (c := c) (ow := ow) _ _, fun w' => ⟨by simp [binOp, Op.intArith], px⟩⟩, hv⟩
        · exact ⟨_, ⟨_, mkC_wrap (c := c) (ow := ow) _ _, fun w' => ⟨by simp [binOp, Op.intArith], px⟩⟩, hv⟩
        · rcases cond_some hv with ⟨_, hv⟩ | ⟨h0, hv⟩
          · cases hv
          · have h0' : ¬ n = 0 := by simpa using h0
            exact ⟨_, ⟨_, mkC_wrap (c := c) (ow := ow) _ _, fun w' => ⟨by simp [binOp, Op.intDiv, h0'], px⟩⟩, hv⟩
        · rcases cond_some hv with ⟨_, hv⟩ | ⟨h0, hv⟩
          · cases hv
          · have h0' : ¬ n = 0 := by simpa using h0
            exact ⟨_, ⟨_, mkC_int (c := c) (ow := ow) (plain_tmod px), fun w' => ⟨by simp [binOp, Op.intDiv, h0'], px⟩⟩, hv⟩
        · exact ⟨_, ⟨_, mkC_wrap (c := c) (ow := ow) _ _, fun w' => ⟨by simp [binOp, Op.intBits], px⟩⟩, hv⟩
        · exact ⟨_, ⟨_, mkC_wrap (c := c) (ow := ow) _ _, fun w' => ⟨by simp [binOp, Op.intBits], px⟩⟩, hv⟩
        · exact ⟨_, ⟨_, mkC_wrap (c := c) (ow := ow) _ _, fun w' => ⟨by simp [binOp, Op.intBits], px⟩⟩, hv⟩
        · exact ⟨_, ⟨_, mkC_wrap (c := c) (ow := ow) _ _, fun w' => ⟨by simp [binOp, Op.intBits], px⟩⟩, hv⟩
        all_goals exact ⟨_, ⟨_, mkC_bool (c := c) (ow := ow) _, fun w' => ⟨by simp [binOp, Op.intCmp], px⟩⟩, hv⟩
      · cases hv
  · rename_i sa sb
    obtain ⟨ex, px⟩ := RelC_str rx
    obtain ⟨ey, py⟩ := RelC_str ry
    have px' : plain (.string sa) = true := by simpa [plain] using px
    rw [ex, ey]
    unfold strBin at hv
    split at hv <;> first | (cases hv; done) | skip
    · rcases cond_some hv with ⟨h0, hv⟩ | ⟨_, hv⟩
      · have hsz : sa.size + sb.size ≤ maxLen := by simpa using h0
        refine ⟨_, ⟨.string (sa ++ sb), mkC_str (c := c) (ow := ow) (by simpa using hsz), fun w' => ⟨?_, px'⟩⟩, hv⟩
        have hh : ¬ ((sa.size + sb.size : Nat) : Int) > IntKind.i64.max := by
          simp only [IntKind.max, IntKind.signed, IntKind.bits]
          have h63 : (2 : Int) ^ 63 = 9223372036854775808 := by decide
          simp only [maxLen] at hsz
          simp [h63]
          omega
        simp only [binOp, Op.stringOp]
        rw [if_neg hh]
        rfl
      · cases hv
    · exact ⟨_, ⟨_, mkC_bool (c := c) (ow := ow) _, fun w' => ⟨by simp [binOp, Op.stringOp], px'⟩⟩, hv⟩
    · exact ⟨_, ⟨_, mkC_bool (c := c) (ow := ow) _, fun w' => ⟨by simp [binOp, Op.stringOp], px'⟩⟩, hv⟩
  · rename_i ba bb
    have ex := RelC_bool rx
    have ey := RelC_bool ry
    rw [ex, ey]
    unfold boolBin at hv
    split at hv
    · rename_i hu
      exact ⟨_, ⟨_, mkC_bool (c := c) (ow := ow) _, fun w' => ⟨by simp [binOp, Op.equal, Op.maxDepth, run_equalIn_bool' w' _ t ba bb hu], rfl⟩⟩, hv⟩
    · rename_i hu
      exact ⟨_, ⟨_, mkC_bool (c := c) (ow := ow) _, fun w' => ⟨by simp [binOp, Op.equal, Op.maxDepth, run_equalIn_bool' w' _ t ba bb hu], rfl⟩⟩, hv⟩
    · cases hv
  · cases hv

theorem eqC_sound {t : TypeId} {x y : C} {b : Bool} {u v : Value} (h : eqC P t x y = some b) (hx : RelC c ow w ok u x) (hy : RelC c ow w ok v y) : (∀ (d : Nat) (w' : World), (Op.equalIn (d + 1) t u v).run P w' = .ok b w') ∧ (∀ w' : World, (isAgg t).run P w' = .ok false w') := by
  unfold eqC at h
  split at h
  · split at h
    · rename_i k' hu
      split at h
      · rename_i hk
        subst hk
        injection h with h
        subst h
        obtain ⟨rfl, _⟩ := RelC_int hx
        obtain ⟨rfl, _⟩ := RelC_int hy
        exact ⟨fun d w' => run_equalIn_int w' d t _ _ _ _ hu, run_isAgg_other hu (by simp) (by simp)⟩
      · cases h
    · cases h
  · split at h
    · rename_i hu
      injection h with h
      subst h
      have e1 := RelC_bool hx
      have e2 := RelC_bool hy
      subst e1 e2
      exact ⟨fun d w' => run_equalIn_bool' w' d t _ _ hu, run_isAgg_other hu (by simp) (by simp)⟩
    · cases h
  · split at h
    · rename_i hu
      injection h with h
      subst h
      obtain ⟨rfl, _⟩ := RelC_str hx
      obtain ⟨rfl, _⟩ := RelC_str hy
      exact ⟨fun d w' => run_equalIn_string w' d t _ _ hu, run_isAgg_other hu (by simp) (by simp)⟩
    · cases h
  · cases h
theorem eqFs_sound {xs ys : List C} {us vs : List Value} (hx : All2 (RelC c ow w ok) us xs) (hy : All2 (RelC c ow w ok) vs ys) : ∀ {fs : List Field} {b : Bool}, eqFs P xs ys fs = some b → ∀ (d : Nat) (w' : World), (Op.eqFields (d + 1) us.toArray vs.toArray fs).run P w' = .ok b w' := by
  intro fs
  induction fs with
  | nil => intro b h d w'; injection h with h; subst h; simp [Op.eqFields]
  | cons f fs ih =>
    intro b h d w'
    unfold eqFs at h
    split at h
    · rename_i x y h1 h2
      split at h
      · rename_i b1 r h3 h4
        split at h
        · cases h
        · rename_i hname
          injection h with h
          subst h
          obtain ⟨u, hu, ru⟩ := hx.get h1
          obtain ⟨v, hv, rv⟩ := hy.get h2
          obtain ⟨q1, q2⟩ := eqC_sound h3 ru rv
          have hp1 : ∀ w' : World, (part f.type us.toArray f.offset).run P w' = .ok u w' := by
            intro w'
            simp only [part, Sem.run_bind, q2 w', Result.andThen_ok, Bool.false_eq_true, if_false]
            simp [hu]
          have hp2 : ∀ w' : World, (part f.type vs.toArray f.offset).run P w' = .ok v w' := by
            intro w'
            simp only [part, Sem.run_bind, q2 w', Result.andThen_ok, Bool.false_eq_true, if_false]
            simp [hv]
          unfold Op.eqFields
          rw [if_pos hname]
          simp only [Sem.run_bind, hp1, hp2, q1, Result.andThen_ok]
          cases b1 with
          | true => simp only [Bool.not_true, Bool.false_eq_true, if_false, Bool.true_and]; exact ih h4 d w'
          | false => simp
      · cases h
    · cases h
theorem eq_sound (h : SimC M src c ow f a w) {op : BinOp} {t t' : TypeId} {x y : Operand} {K : S → Option R} {r : R} (hop : o.op = .binOp op t x y t') (hv : evEq P f op t x y K = some r) : ∃ s, Val P src c ow f a w o s ∧ K s = some r := by
  unfold evEq at hv
  split at hv
  · rename_i fs xs ys ht hx hy
    have hfo : P.fieldsOf t = fs := by simp [Program.fieldsOf, ht]
    split at hv
    · rename_i hg
      obtain ⟨p1, p2⟩ := hg
      split at hv
      all_goals first | (cases hv; done) | skip
      all_goals
        rename_i b hb
        obtain ⟨us, hus, hax⟩ := h.get hx
        obtain ⟨vs, hvs, hay⟩ := h.get hy
        have hrun : ∀ w' : World, (Op.equalIn 10000 t (.agg us.toArray) (.agg vs.toArray)).run P w' = .ok b w' := by
          intro w'
          rw [run_equalIn_struct w' 9999 t _ _ (by rw [hfo]; exact ht) p1, hfo]
          exact eqFs_sound hax hay hb 9998 w'
        refine ⟨_, ?_, hv⟩
        refine ⟨_, mkC_bool (c := c) (ow := ow) _, fun w' _ => ?_⟩
        simp only [execOp, hop, hus, hvs]
      · simp [run_eqGuard_agg (P := P) w' _ t x y _ _ p2, run_eql_struct, hrun]
      · simp [run_eqGuard_agg (P := P) w' _ t x y _ _ p2, run_neq_struct, hrun]
    · cases hv
  · cases hv

theorem field_sound (h : SimC M src c ow f a w) {t : TypeId} {x : Operand} {j : Nat} {K : S → Option R} {r : R} (hop : o.op = .fieldAddr t x j) (hv : evField P f t x j K = some r) : ∃ s, Val P src c ow f a w o s ∧ K s = some r := by
  unfold evField at hv
  split at hv
  · rename_i fs ht
    split at hv
    · rename_i fd hf
      split at hv
      · rename_i i hi
        split at hv
        · cases hv
        · rename_i h0
          split at hv
          · rename_i ob off hx
            have ex : a.eval x = .pointer (some ⟨c.loc ob, off, none⟩) := h.getC hx
            refine ⟨_, ?_, hv⟩
            refine ⟨.pointer (some ⟨c.loc ob, off + fd.offset, none⟩), rfl, fun w' _ => ?_⟩
            simp only [execOp, hop, ex]
            exact run_v (run_fieldAt ht hf hi h0 _ _ w')
          · rename_i ty e off hx
            obtain ⟨b, base, ex, h1, h2, xs, G, h3, h4, h5⟩ := h.getC hx
            refine ⟨_, ?_, hv⟩
            refine ⟨.pointer (some ⟨b, base + (off + fd.offset), none⟩), ⟨b, base, rfl, h1, h2, xs, G, h3, h4, h5⟩, fun w' _ => ?_⟩
            simp only [execOp, hop, ex, ← Nat.add_assoc]
            exact run_v (run_fieldAt ht hf hi h0 _ _ w')
          · rename_i rr k j' off hx
            obtain ⟨g, b0, n, cap, h1, ex⟩ := h.getC hx
            refine ⟨_, ?_, hv⟩
            refine ⟨.pointer (some ⟨g, b0 + (j' * k + (off + fd.offset)), none⟩), ⟨g, b0, n, cap, h1, rfl⟩, fun w' _ => ?_⟩
            simp only [execOp, hop, ex, ← Nat.add_assoc]
            exact run_v (run_fieldAt ht hf hi h0 _ _ w')
          · cases hv
      · cases hv
    · cases hv
  · cases hv

theorem index_sound (h : SimC M src c ow f a w) {t : TypeId} {x i : Operand} {K : S → Option R} {r : R} (hop : o.op = .indexAddr t x i) (hv : evIndex P f t x i K = some r) : ∃ s, Val P src c ow f a w o s ∧ K s = some r := by
  unfold evIndex at hv
  split at hv
  · rename_i e ht
    split at hv
    · rename_i inf ty l kd n hi hx hix
      obtain ⟨y, hy, hv⟩ := bind_some hv
      split at hv
      · rename_i hk
        obtain ⟨p1, p2⟩ := idx_some hy
        obtain ⟨G, hr, hG⟩ := h.getC hx
        obtain ⟨ei, _⟩ := RelC_int (h.getC hix)
        obtain ⟨b, off, len, cap, xs, G', hve, hlt, hb, hbF, g1, g2, g3⟩ := Rep.elem (es := l.map (cells ty)) hr (i := n.toNat) (el := cells ty y) (by simp [p2])
        rw [cells_len, ← split_len ty y, hk] at g2
        refine ⟨_, ?_, hv⟩
        refine ⟨.pointer (some ⟨b, off + n.toNat * inf.size, none⟩), ⟨b, off + n.toNat * inf.size, by simp, hG b hbF, hb, xs, G', g1, g2, fun x hx => hG x (g3 x hx)⟩, fun w' _ => ?_⟩
        simp only [execOp, hop, hve, ei]
        exact run_v (run_indexAt_slice ht hi p1 (by omega) w')
      · cases hv
    · rename_i inf rr kd n hi hx hix
      have hxv : a.eval x = c.rv rr := h.getC hx
      obtain ⟨ei, _⟩ := RelC_int (h.getC hix)
      split at hv
      · rename_i e' k ty l deep hrow
        split at hv
        · rename_i hk
          subst hk
          rcases cond_some hv with ⟨p1, hv⟩ | ⟨_, hv⟩
          · rcases cond_some hv with ⟨p2, hv⟩ | ⟨_, hv⟩
            · have p1 : 0 ≤ n := by simpa using p1
              have p2 : n < (l.length : Int) := by simpa using p2
              obtain ⟨r0, r1, r2, xs, G, r3, _⟩ := h.obj hrow
              obtain ⟨hl, hr⟩ := r3
              rcases hr with ⟨_, h0⟩ | ⟨g, cap, cur, hrv, _⟩
              · exact (no_room p1 p2 h0).elim
              · refine ⟨_, ?_, hv⟩
                refine ⟨.pointer (some ⟨g, 0 + (n.toNat * inf.size + 0), none⟩), ⟨g, 0, l.length, cap, hrv, rfl⟩, fun w' _ => ?_⟩
                simp only [execOp, hop, hxv, hrv, ei]
                exact run_v (run_indexAt_slice (b := g) (off := 0) (cap := cap) (len := l.length) (kd := kd) ht hi p1 p2 w')
            · cases hv
          · cases hv
        · cases hv
      · rename_i k ty l hrow
        split at hv
        · rename_i hk
          subst hk
          rcases cond_some hv with ⟨p1, hv⟩ | ⟨_, hv⟩
          · rcases cond_some hv with ⟨p2, hv⟩ | ⟨_, hv⟩
            · have p1 : 0 ≤ n := by simpa using p1
              have p2 : n < (l.length : Int) := by simpa using p2
              obtain ⟨r0, r1, G, r3, _⟩ := h.obj hrow
              have hlt : n.toNat < l.length := toNat_lt' p1 p2
              obtain ⟨b, off, len, cap, xs, G', hve, hin, hb, hbF, g1, g2, g3⟩ := Rep.elem (es := l.map (cells ty)) r3 (i := n.toNat) (el := cells ty l[n.toNat]) (by simp [hlt])
              refine ⟨_, ?_, hv⟩
              refine ⟨.pointer (some ⟨b, off + (n.toNat * inf.size + 0), none⟩), ⟨b, off, len, cap, hve, rfl⟩, fun w' _ => ?_⟩
              simp only [execOp, hop, hxv, hve, ei]
              exact run_v (run_indexAt_slice ht hi p1 (by have h1 := hin; have h2 : ((n.toNat : Nat) : Int) = n := Int.toNat_of_nonneg p1; rw [← h2]; exact Int.ofNat_lt.2 h1) w')
            · cases hv
          · cases hv
        · cases hv
      · cases hv
    · cases hv
  · cases hv

theorem len_sound (h : SimC M src c ow f a w) {t : TypeId} {x : Operand} {K : S → Option R} {r : R} (hop : o.op = .call { callee := .builtin .len, args := #[x], argTypes := #[t] }) (hv : evLen P f t x K = some r) : ∃ s, Val P src c ow f a w o s ∧ K s = some r := by
  unfold evLen at hv
  split at hv
  · rename_i e ty l ht hx
    obtain ⟨G, hr, hG⟩ := h.getC hx
    obtain ⟨ad, cap, hve, hm⟩ := Rep.len (es := l.map (cells ty)) hr
    rw [List.length_map] at hve hm
    refine ⟨_, ?_, hv⟩
    refine ⟨.int .i64 (l.length : Int), mkC_int (c := c) (ow := ow) (plain_len hm), fun w' _ => exec_len hop w' fun ty => ?_⟩
    rw [hve]
    simp [Builtin.len_, run_underlying ht, goInt]
  · rename_i e ht hx
    have hve : a.eval x = .slice none 0 0 := h.getC hx
    refine ⟨_, ?_, hv⟩
    refine ⟨.int .i64 0, mkC_int (c := c) (ow := ow) (by decide), fun w' _ => exec_len hop w' fun ty => ?_⟩
    rw [hve]
    simp [Builtin.len_, run_underlying ht, goInt]
  · rename_i e rr ht hx
    have hve : a.eval x = c.rv rr := h.getC hx
    split at hv
    · rename_i e' k ty l deep hrow
      obtain ⟨r0, r1, r2, xs, G, r3, _⟩ := h.obj hrow
      obtain ⟨ad, cap, hrv, hm⟩ := ownsRow_len r3
      refine ⟨_, ?_, hv⟩
      refine ⟨.int .i64 (l.length : Int), mkC_int (c := c) (ow := ow) (plain_len hm), fun w' _ => exec_len hop w' fun ty => ?_⟩
      rw [hve, hrv]
      simp [Builtin.len_, run_underlying ht, goInt]
    · rename_i k ty l hrow
      obtain ⟨r0, r1, G, r3, _⟩ := h.obj hrow
      obtain ⟨ad, cap, hrv, hm⟩ := Rep.len (es := l.map (cells ty)) r3
      rw [List.length_map] at hrv hm
      refine ⟨_, ?_, hv⟩
      refine ⟨.int .i64 (l.length : Int), mkC_int (c := c) (ow := ow) (plain_len hm), fun w' _ => exec_len hop w' fun ty => ?_⟩
      rw [hve, hrv]
      simp [Builtin.len_, run_underlying ht, goInt]
    · cases hv
  · rename_i sb ht hx
    obtain ⟨hve, hp⟩ := RelC_str (h.getC hx)
    refine ⟨_, ?_, hv⟩
    refine ⟨.int .i64 (sb.size : Int), mkC_int (c := c) (ow := ow) (plain_len hp), fun w' _ => exec_len hop w' fun ty => ?_⟩
    rw [hve]
    simp [Builtin.len_, run_underlying ht, goInt]
  · cases hv
theorem mm_sound (h : SimC M src c ow f a w) {mx : Bool} {cl : Call} {x y : Operand} {K : S → Option R} {r : R} (hop : o.op = .call cl) (hcal : cl.callee = .builtin (if mx then .max else .min)) (hargs : cl.args.toList = [x, y]) (hv : evMM f mx x y K = some r) : ∃ s, Val P src c ow f a w o s ∧ K s = some r := by
  unfold evMM at hv
  split at hv
  · rename_i k m k' n hx hy
    split at hv
    · rename_i hk
      subst hk
      obtain ⟨ex, px⟩ := RelC_int (h.getC hx)
      obtain ⟨ey, py⟩ := RelC_int (h.getC hy)
      have ha : cl.args = #[x, y] := by
        apply Array.toList_inj.1
        simpa using hargs
      refine ⟨_, ?_, hv⟩
      refine ⟨.int k (if mx then (if n > m then n else m) else (if n < m then n else m)), mkC_int (c := c) (ow := ow) ?_, fun w' _ => ?_⟩
      · cases mx <;> simp only [Bool.false_eq_true, if_false, if_true] <;> split <;> assumption
      · cases mx
        · simp [execOp, hop, resolve, hcal, ha, invoke, builtin, ex, ey, Builtin.min_, Builtin.min2]
        · simp [execOp, hop, resolve, hcal, ha, invoke, builtin, ex, ey, Builtin.max_, Builtin.max2]
    · cases hv
  · cases hv
end
end Go.V
