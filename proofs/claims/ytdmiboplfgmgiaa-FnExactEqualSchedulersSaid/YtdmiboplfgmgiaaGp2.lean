/-
  Each function that law FnExactEqualSchedulers reaches computes what its definition says. Printed by a program. Conditions: those of each theorem.
-/
import Derived.Test.YtdmiboplfgmgiaaGl
import Derived.Test.YtdmiboplfgmgiaaProg
set_option linter.unusedVariables false
set_option linter.unusedSimpArgs false
set_option maxRecDepth 100000
namespace Go.Proofs.Ytdmiboplfgmgiaa
open Go.Ab
theorem l_szReservationS_ok (a_a : List GReservation) (a_left : Int) : MeetsAt Try.prog 72 [.one (.sl (List.map GReservation.enc a_a)), .one (I a_left)] [.one (I (l_szReservationS a_a a_left))] none := by
  generalize hs : ([.one (I (l_szReservationS a_a a_left))] : List AV) = outs
  unfold l_szReservationS at hs
  refine meets_data Try.func72 rfl (by kernel_rfl) (Nat.le_of_ble_eq_true rfl) ?_
  rintro ⟨P, m, w0, B, src, hsrc⟩ rfl rfl
  refine aw_seq ?_
  refine aw_reg [] [0, 1] [] [] ⟨[(0, none, .val (.one (.sl (List.map GReservation.enc a_a)))), (1, none, .val (.one (I a_left)))], []⟩ [] (by kernel_rfl) trivial (?_)
  refine andThen_normal ?_
  refine aw_seq ?_
  refine aw_reg [] [1] [] [] ⟨[(1, none, .val (.one (I (wr (a_left - ((List.map GReservation.enc a_a).length : Int))))))], []⟩ [] (by kernel_rfl) trivial (q_cast ⟨[(1, none, .val (.one (I (wr (a_left - (a_a.length : Int))))))], []⟩ (by simp only [Int.toNat_natCast, List.length_map, List.nil_append, List.map_append, List.map_cons, List.map_nil, List.map_take, List.map_drop, List.map_replicate, encI, encS, encU]) ?_)
  refine andThen_normal ?_
  refine aw_seq ?_
  refine aw_seq ?_
  refine aw_reg [] [1, 10] [] [] ⟨[(1, none, .val (.one (I (wr (a_left - (a_a.length : Int)))))), (10, none, .val (.one (b1 (decide (((wr (a_left - (a_a.length : Int))) : Int) < 0)))))], []⟩ [] (by kernel_rfl) trivial (?_)
  refine andThen_normal ?_
  refine aw_cond (decide (((wr (a_left - (a_a.length : Int))) : Int) < 0)) (by kernel_rfl) (fun h1 => ?_) (fun h1 => ?_)
  · rw [h1, cond_true] at hs
    refine aw_seq ?_
    refine aw_reg [] [4] [] [] ⟨[(4, none, .val (.one (I (-1))))], []⟩ [] (by kernel_rfl) trivial (?_)
    refine andThen_normal ?_
    exact aw_ret (ret_thru (ends_data (ys := [.one (I (-1))]) (.inl rfl) (by kernel_rfl) (by kernel_rfl) hs))
  · rw [h1, cond_false] at hs
    refine aw_pick [1] [] ⟨[(1, none, .val (.one (I (wr (a_left - (a_a.length : Int))))))], []⟩ (by kernel_rfl) ?_
    refine aw_skip ?_
    refine andThen_normal ?_
    refine aw_seq ?_
    refine aw_reg [] [4] [] [] ⟨[(4, none, .val (.one (I (wr (a_left - (a_a.length : Int))))))], []⟩ [] (by kernel_rfl) trivial (?_)
    refine andThen_normal ?_
    exact aw_ret (ends_data (ys := [.one (I (wr (a_left - (a_a.length : Int))))]) (.inl rfl) (by kernel_rfl) (by kernel_rfl) hs)

theorem l_szUsageS_ok (a_a : List GUsage) (a_left : Int) : MeetsAt Try.prog 73 [.one (.sl (List.map GUsage.enc a_a)), .one (I a_left)] [.one (I (l_szUsageS a_a a_left))] none := by
  generalize hs : ([.one (I (l_szUsageS a_a a_left))] : List AV) = outs
  unfold l_szUsageS at hs
  refine meets_data Try.func73 rfl (by kernel_rfl) (Nat.le_of_ble_eq_true rfl) ?_
  rintro ⟨P, m, w0, B, src, hsrc⟩ rfl rfl
  refine aw_seq ?_
  refine aw_reg [] [0, 1] [] [] ⟨[(0, none, .val (.one (.sl (List.map GUsage.enc a_a)))), (1, none, .val (.one (I a_left)))], []⟩ [] (by kernel_rfl) trivial (?_)
  refine andThen_normal ?_
  refine aw_seq ?_
  refine aw_reg [] [1] [] [] ⟨[(1, none, .val (.one (I (wr (a_left - ((List.map GUsage.enc a_a).length : Int))))))], []⟩ [] (by kernel_rfl) trivial (q_cast ⟨[(1, none, .val (.one (I (wr (a_left - (a_a.length : Int))))))], []⟩ (by simp only [Int.toNat_natCast, List.length_map, List.nil_append, List.map_append, List.map_cons, List.map_nil, List.map_take, List.map_drop, List.map_replicate, encI, encS, encU]) ?_)
  refine andThen_normal ?_
  refine aw_seq ?_
  refine aw_seq ?_
  refine aw_reg [] [1, 10] [] [] ⟨[(1, none, .val (.one (I (wr (a_left - (a_a.length : Int)))))), (10, none, .val (.one (b1 (decide (((wr (a_left - (a_a.length : Int))) : Int) < 0)))))], []⟩ [] (by kernel_rfl) trivial (?_)
  refine andThen_normal ?_
  refine aw_cond (decide (((wr (a_left - (a_a.length : Int))) : Int) < 0)) (by kernel_rfl) (fun h1 => ?_) (fun h1 => ?_)
  · rw [h1, cond_true] at hs
    refine aw_seq ?_
    refine aw_reg [] [4] [] [] ⟨[(4, none, .val (.one (I (-1))))], []⟩ [] (by kernel_rfl) trivial (?_)
    refine andThen_normal ?_
    exact aw_ret (ret_thru (ends_data (ys := [.one (I (-1))]) (.inl rfl) (by kernel_rfl) (by kernel_rfl) hs))
  · rw [h1, cond_false] at hs
    refine aw_pick [1] [] ⟨[(1, none, .val (.one (I (wr (a_left - (a_a.length : Int))))))], []⟩ (by kernel_rfl) ?_
    refine aw_skip ?_
    refine andThen_normal ?_
    refine aw_seq ?_
    refine aw_reg [] [4] [] [] ⟨[(4, none, .val (.one (I (wr (a_left - (a_a.length : Int))))))], []⟩ [] (by kernel_rfl) trivial (?_)
    refine andThen_normal ?_
    exact aw_ret (ends_data (ys := [.one (I (wr (a_left - (a_a.length : Int))))]) (.inl rfl) (by kernel_rfl) (by kernel_rfl) hs)

theorem s_EqualReservations_ok (a_a : List GReservation) (a_b : List GReservation) : MeetsAt Try.prog 74 [.one (.sl (List.map GReservation.enc a_a)), .one (.sl (List.map GReservation.enc a_b))] [.one (b1 (s_EqualReservations a_a a_b))] none := by
  generalize hs : ([.one (b1 (s_EqualReservations a_a a_b))] : List AV) = outs
  unfold s_EqualReservations at hs
  refine meets_data Try.func74 rfl (by kernel_rfl) (Nat.le_of_ble_eq_true rfl) ?_
  rintro ⟨P, m, w0, B, src, hsrc⟩ rfl rfl
  refine aw_seq ?_
  refine aw_reg [] [0, 1] [] [] ⟨[(0, none, .val (.one (.sl (List.map GReservation.enc a_a)))), (1, none, .val (.one (.sl (List.map GReservation.enc a_b))))], []⟩ [] (by kernel_rfl) trivial (?_)
  refine andThen_normal ?_
  refine aw_seq ?_
  refine aw_seq ?_
  refine aw_reg [] [0, 1, 10] [] [] ⟨[(0, none, .val (.one (.sl (List.map GReservation.enc a_a)))), (1, none, .val (.one (.sl (List.map GReservation.enc a_b)))), (10, none, .val (.one (b1 ((((List.map GReservation.enc a_a).length : Int) : Int) != ((List.map GReservation.enc a_b).length : Int)))))], []⟩ [] (by kernel_rfl) trivial (q_cast ⟨[(0, none, .val (.one (.sl (List.map GReservation.enc a_a)))), (1, none, .val (.one (.sl (List.map GReservation.enc a_b)))), (10, none, .val (.one (b1 (((a_a.length : Int) : Int) != (a_b.length : Int)))))], []⟩ (by simp only [Int.toNat_natCast, List.length_map, List.nil_append, List.map_append, List.map_cons, List.map_nil, List.map_take, List.map_drop, List.map_replicate, encI, encS, encU]) ?_)
  refine andThen_normal ?_
  refine aw_cond (((a_a.length : Int) : Int) != (a_b.length : Int)) (by kernel_rfl) (fun h1 => ?_) (fun h1 => ?_)
  · rw [h1, cond_true] at hs
    refine aw_seq ?_
    refine aw_reg [] [4] [] [] ⟨[(4, none, .val (.one (b1 false)))], []⟩ [] (by kernel_rfl) trivial (?_)
    refine andThen_normal ?_
    exact aw_ret (ret_thru (ends_data (ys := [.one (b1 false)]) (.inl rfl) (by kernel_rfl) (by kernel_rfl) hs))
  · rw [h1, cond_false] at hs
    refine aw_pick [0, 1] [] ⟨[(0, none, .val (.one (.sl (List.map GReservation.enc a_a)))), (1, none, .val (.one (.sl (List.map GReservation.enc a_b))))], []⟩ (by kernel_rfl) ?_
    refine aw_skip ?_
    refine andThen_normal ?_
    refine aw_seq ?_
    refine aw_seq ?_
    refine aw_reg [] [0, 1, 5] [] [] ⟨[(0, none, .val (.one (.sl (List.map GReservation.enc a_a)))), (1, none, .val (.one (.sl (List.map GReservation.enc a_b)))), (5, none, .val (.one (I 0)))], []⟩ [] (by kernel_rfl) trivial (?_)
    refine andThen_normal ?_
    refine aw_block ?_
    refine aw_len 0 (List.map GReservation.enc a_a) (by kernel_rfl) (fun hl1 => ?_)
    rw [List.length_map] at hl1
    generalize hz1 : s_EqualReservations_l1 a_b a_a 0 = z1 at hs
    refine aw_loop (fun m st => ∃ (k3 : Nat), m = a_a.length - k3 ∧ k3 ≤ a_a.length ∧ s_EqualReservations_l1 a_b (a_a.drop k3) k3 = z1 ∧ st = ⟨[(0, none, .val (.one (.sl (List.map GReservation.enc a_a)))), (1, none, .val (.one (.sl (List.map GReservation.enc a_b)))), (5, none, .val (.one (I (k3 : Int))))], []⟩) (a_a.length) ⟨0, rfl, Nat.zero_le _, hz1, by kernel_rfl⟩ ?_
    clear hz1
    rintro m s ⟨k3, rfl, hk1, hz1, rfl⟩
    rcases drop_cases a_a k3 hk1 with ⟨hd1, rfl⟩ | ⟨x4, hd1, hx1, hlt1⟩
    · rw [hd1, s_EqualReservations_l1] at hz1
      refine aw_seq ?_
      refine aw_seq ?_
      refine aw_reg [] [0, 1, 5, 14] [] [] ⟨[(0, none, .val (.one (.sl (List.map GReservation.enc a_a)))), (1, none, .val (.one (.sl (List.map GReservation.enc a_b)))), (5, none, .val (.one (I (a_a.length : Int)))), (14, none, .val (.one (b1 (decide (((a_a.length : Int) : Int) < ((List.map GReservation.enc a_a).length : Int))))))], []⟩ [] (by kernel_rfl) trivial (q_cast ⟨[(0, none, .val (.one (.sl (List.map GReservation.enc a_a)))), (1, none, .val (.one (.sl (List.map GReservation.enc a_b)))), (5, none, .val (.one (I (a_a.length : Int)))), (14, none, .val (.one (b1 (decide (((a_a.length : Int) : Int) < (a_a.length : Int))))))], []⟩ (by simp only [Int.toNat_natCast, List.length_map, List.nil_append, List.map_append, List.map_cons, List.map_nil, List.map_take, List.map_drop, List.map_replicate, encI, encS, encU]) ?_)
      refine andThen_normal ?_
      refine aw_cond (decide (((a_a.length : Int) : Int) < (a_a.length : Int))) (by kernel_rfl) (fun h => absurd h (by simp)) (fun _ => ?_)
      refine aw_pick [] [] ⟨[], []⟩ (by kernel_rfl) ?_
      refine aw_exit (exit_thru (exit_thru (exit_here 0 (?_))))
      rw [← hz1, Sum.elim_inr] at hs
      refine andThen_normal ?_
      refine aw_seq ?_
      refine aw_reg [] [4] [] [] ⟨[(4, none, .val (.one (b1 true)))], []⟩ [] (by kernel_rfl) trivial (?_)
      refine andThen_normal ?_
      exact aw_ret (ends_data (ys := [.one (b1 true)]) (.inl rfl) (by kernel_rfl) (by kernel_rfl) hs)
    · rw [hd1, s_EqualReservations_l1] at hz1
      refine aw_seq ?_
      refine aw_seq ?_
      refine aw_reg [] [0, 1, 5, 14] [] [] ⟨[(0, none, .val (.one (.sl (List.map GReservation.enc a_a)))), (1, none, .val (.one (.sl (List.map GReservation.enc a_b)))), (5, none, .val (.one (I (k3 : Int)))), (14, none, .val (.one (b1 (decide (((k3 : Int) : Int) < ((List.map GReservation.enc a_a).length : Int))))))], []⟩ [] (by kernel_rfl) trivial (q_cast ⟨[(0, none, .val (.one (.sl (List.map GReservation.enc a_a)))), (1, none, .val (.one (.sl (List.map GReservation.enc a_b)))), (5, none, .val (.one (I (k3 : Int)))), (14, none, .val (.one (b1 (decide (((k3 : Int) : Int) < (a_a.length : Int))))))], []⟩ (by simp only [Int.toNat_natCast, List.length_map, List.nil_append, List.map_append, List.map_cons, List.map_nil, List.map_take, List.map_drop, List.map_replicate, encI, encS, encU]) ?_)
      refine andThen_normal ?_
      refine aw_cond (decide (((k3 : Int) : Int) < (a_a.length : Int))) (by kernel_rfl) (fun _ => ?_) (fun h => absurd h (by simp; omega))
      refine aw_pick [0, 1, 5] [] ⟨[(0, none, .val (.one (.sl (List.map GReservation.enc a_a)))), (1, none, .val (.one (.sl (List.map GReservation.enc a_b)))), (5, none, .val (.one (I (k3 : Int))))], []⟩ (by kernel_rfl) ?_
      refine aw_skip ?_
      refine andThen_normal ?_
      refine aw_seq ?_
      refine aw_block ?_
      refine aw_seq ?_
      refine aw_drw [(19, .elem (GReservation.enc x4)), (23, .elem (GReservation.enc (a_b.getD k3 GReservation.zero)))] [0, 1, 2, 3, 4, 5, 6, 7, 8] [0, 1, 5, 25] [] [] ⟨[(0, none, .val (.one (.sl (List.map GReservation.enc a_a)))), (1, none, .val (.one (.sl (List.map GReservation.enc a_b)))), (5, none, .val (.one (I (k3 : Int)))), (25, none, .val (.one (b1 (!(((x4.ID : Int) == ((a_b.getD k3 GReservation.zero).ID)) && (((x4.AS : Int) == ((a_b.getD k3 GReservation.zero).AS)) && (((x4.Interface : Int) == ((a_b.getD k3 GReservation.zero).Interface)) && (((x4.Rate : Int) == ((a_b.getD k3 GReservation.zero).Rate)) && (((x4.Until : Int) == ((a_b.getD k3 GReservation.zero).Until)) && true)))))))))], []⟩ [(0 : Int) ≤ (k3 : Int), (List.map GReservation.enc a_a)[((k3 : Int) : Int).toNat]? = some (GReservation.enc x4), (0 : Int) ≤ (k3 : Int), (List.map GReservation.enc a_b)[((k3 : Int) : Int).toNat]? = some (GReservation.enc (a_b.getD k3 GReservation.zero)), Try.prog.stoodInHeld 69 = false, Try.prog.eqGuardType Try.prog.depth 69 = false] (by kernel_rfl) (by kernel_rfl) (Nat.le_of_ble_eq_true rfl) (by kernel_rfl) ⟨(by first | omega | (simp only [List.length_map, List.length_append, List.length_cons, List.length_nil, List.length_replicate, List.length_set, decide_eq_true_eq, Bool.and_eq_true, Bool.not_eq_true', decide_eq_false_iff_not, Bool.cond_false_right, Bool.not_eq_false', Bool.cond_true_left, Bool.or_eq_false_iff, Bool.or_eq_true, bne_eq_false_iff_eq, bne_iff_ne, beq_iff_eq, beq_eq_false_iff_ne, ne_eq, Int.not_lt, Int.not_le, ge_iff_le, gt_iff_lt, maxLen] at *; omega)), (el_map hx1), (by first | omega | (simp only [List.length_map, List.length_append, List.length_cons, List.length_nil, List.length_replicate, List.length_set, decide_eq_true_eq, Bool.and_eq_true, Bool.not_eq_true', decide_eq_false_iff_not, Bool.cond_false_right, Bool.not_eq_false', Bool.cond_true_left, Bool.or_eq_false_iff, Bool.or_eq_true, bne_eq_false_iff_eq, bne_iff_ne, beq_iff_eq, beq_eq_false_iff_ne, ne_eq, Int.not_lt, Int.not_le, ge_iff_le, gt_iff_lt, maxLen] at *; omega)), (el_getD (n := (k3 : Int)) (by first | omega | (simp only [List.length_map, List.length_append, List.length_cons, List.length_nil, List.length_replicate, List.length_set, decide_eq_true_eq, Bool.and_eq_true, Bool.not_eq_true', decide_eq_false_iff_not, Bool.cond_false_right, Bool.not_eq_false', Bool.cond_true_left, Bool.or_eq_false_iff, Bool.or_eq_true, bne_eq_false_iff_eq, bne_iff_ne, beq_iff_eq, beq_eq_false_iff_ne, ne_eq, Int.not_lt, Int.not_le, ge_iff_le, gt_iff_lt, maxLen] at *; omega)) (by first | omega | (simp only [List.length_map, List.length_append, List.length_cons, List.length_nil, List.length_replicate, List.length_set, decide_eq_true_eq, Bool.and_eq_true, Bool.not_eq_true', decide_eq_false_iff_not, Bool.cond_false_right, Bool.not_eq_false', Bool.cond_true_left, Bool.or_eq_false_iff, Bool.or_eq_true, bne_eq_false_iff_eq, bne_iff_ne, beq_iff_eq, beq_eq_false_iff_ne, ne_eq, Int.not_lt, Int.not_le, ge_iff_le, gt_iff_lt, maxLen] at *; omega))), (by kernel_rfl), (by kernel_rfl), trivial⟩ (?_)
      refine andThen_normal ?_
      refine aw_cond (!(((x4.ID : Int) == ((a_b.getD k3 GReservation.zero).ID)) && (((x4.AS : Int) == ((a_b.getD k3 GReservation.zero).AS)) && (((x4.Interface : Int) == ((a_b.getD k3 GReservation.zero).Interface)) && (((x4.Rate : Int) == ((a_b.getD k3 GReservation.zero).Rate)) && (((x4.Until : Int) == ((a_b.getD k3 GReservation.zero).Until)) && true)))))) (by kernel_rfl) (fun h5 => ?_) (fun h5 => ?_)
      · rw [h5, cond_true] at hz1
        refine aw_seq ?_
        refine aw_reg [] [4] [] [] ⟨[(4, none, .val (.one (b1 false)))], []⟩ [] (by kernel_rfl) trivial (?_)
        refine andThen_normal ?_
        rw [← hz1, Sum.elim_inl] at hs
        exact aw_ret (ret_blk (ret_thru (ret_thru (ret_blk (ret_thru (ends_data (ys := [.one (b1 false)]) (.inl rfl) (by kernel_rfl) (by kernel_rfl) hs))))))
      · rw [h5, cond_false] at hz1
        refine aw_pick [0, 1, 5] [] ⟨[(0, none, .val (.one (.sl (List.map GReservation.enc a_a)))), (1, none, .val (.one (.sl (List.map GReservation.enc a_b)))), (5, none, .val (.one (I (k3 : Int))))], []⟩ (by kernel_rfl) ?_
        refine aw_skip ?_
        refine blk_normal ?_
        refine andThen_normal ?_
        refine aw_reg [] [0, 1, 5] [] [] ⟨[(0, none, .val (.one (.sl (List.map GReservation.enc a_a)))), (1, none, .val (.one (.sl (List.map GReservation.enc a_b)))), (5, none, .val (.one (I (wr ((k3 : Int) + 1)))))], []⟩ [] (by kernel_rfl) trivial (?_)
        exact ⟨a_a.length - (k3 + 1), by omega, k3 + 1, rfl, by omega, hz1, by rw [show wr ((k3 : Int) + 1) = ((k3 + 1 : Nat) : Int) from wrap_succ (by omega)]⟩

theorem i_EqualReservations_ok (a_a : List GReservation) (a_b : List GReservation) : MeetsAt Try.prog 77 [.one (.sl (List.map GReservation.enc a_a)), .one (.sl (List.map GReservation.enc a_b))] [.one (b1 (i_EqualReservations a_a a_b))] none := by
  generalize hs : ([.one (b1 (i_EqualReservations a_a a_b))] : List AV) = outs
  unfold i_EqualReservations at hs
  refine meets_data Try.func77 rfl (by kernel_rfl) (Nat.le_of_ble_eq_true rfl) ?_
  rintro ⟨P, m, w0, B, src, hsrc⟩ rfl rfl
  refine aw_seq ?_
  refine aw_reg [] [0, 1] [] [] ⟨[(0, none, .val (.one (.sl (List.map GReservation.enc a_a)))), (1, none, .val (.one (.sl (List.map GReservation.enc a_b))))], []⟩ [] (by kernel_rfl) trivial (?_)
  refine andThen_normal ?_
  refine aw_seq ?_
  refine aw_seq ?_
  refine aw_reg [] [0, 1, 10] [] [] ⟨[(0, none, .val (.one (.sl (List.map GReservation.enc a_a)))), (1, none, .val (.one (.sl (List.map GReservation.enc a_b)))), (10, none, .val (.one (b1 ((((List.map GReservation.enc a_a).length : Int) : Int) != ((List.map GReservation.enc a_b).length : Int)))))], []⟩ [] (by kernel_rfl) trivial (q_cast ⟨[(0, none, .val (.one (.sl (List.map GReservation.enc a_a)))), (1, none, .val (.one (.sl (List.map GReservation.enc a_b)))), (10, none, .val (.one (b1 (((a_a.length : Int) : Int) != (a_b.length : Int)))))], []⟩ (by simp only [Int.toNat_natCast, List.length_map, List.nil_append, List.map_append, List.map_cons, List.map_nil, List.map_take, List.map_drop, List.map_replicate, encI, encS, encU]) ?_)
  refine andThen_normal ?_
  refine aw_cond (((a_a.length : Int) : Int) != (a_b.length : Int)) (by kernel_rfl) (fun h1 => ?_) (fun h1 => ?_)
  · rw [h1, cond_true] at hs
    refine aw_seq ?_
    refine aw_reg [] [4] [] [] ⟨[(4, none, .val (.one (b1 false)))], []⟩ [] (by kernel_rfl) trivial (?_)
    refine andThen_normal ?_
    exact aw_ret (ret_thru (ends_data (ys := [.one (b1 false)]) (.inl rfl) (by kernel_rfl) (by kernel_rfl) hs))
  · rw [h1, cond_false] at hs
    refine aw_pick [0, 1] [] ⟨[(0, none, .val (.one (.sl (List.map GReservation.enc a_a)))), (1, none, .val (.one (.sl (List.map GReservation.enc a_b))))], []⟩ (by kernel_rfl) ?_
    refine aw_skip ?_
    refine andThen_normal ?_
    refine aw_seq ?_
    refine aw_seq ?_
    refine aw_reg [] [0, 1, 12, 13] [] [] ⟨[(0, none, .val (.one (.sl (List.map GReservation.enc a_a)))), (1, none, .val (.one (.sl (List.map GReservation.enc a_b)))), (12, none, .val (.one (I ((List.map GReservation.enc a_a).length : Int)))), (13, none, .val (.one (I 0)))], []⟩ [] (by kernel_rfl) trivial (q_cast ⟨[(0, none, .val (.one (.sl (List.map GReservation.enc a_a)))), (1, none, .val (.one (.sl (List.map GReservation.enc a_b)))), (12, none, .val (.one (I (a_a.length : Int)))), (13, none, .val (.one (I 0)))], []⟩ (by simp only [Int.toNat_natCast, List.length_map, List.nil_append, List.map_append, List.map_cons, List.map_nil, List.map_take, List.map_drop, List.map_replicate, encI, encS, encU]) ?_)
    refine andThen_normal ?_
    refine aw_block ?_
    refine aw_len 0 (List.map GReservation.enc a_a) (by kernel_rfl) (fun hl1 => ?_)
    rw [List.length_map] at hl1
    generalize hz1 : i_EqualReservations_l1 a_b a_a 0 = z1 at hs
    refine aw_loop (fun m st => ∃ (k3 : Nat), m = a_a.length - k3 ∧ k3 ≤ a_a.length ∧ i_EqualReservations_l1 a_b (a_a.drop k3) k3 = z1 ∧ st = ⟨[(0, none, .val (.one (.sl (List.map GReservation.enc a_a)))), (1, none, .val (.one (.sl (List.map GReservation.enc a_b)))), (12, none, .val (.one (I (a_a.length : Int)))), (13, none, .val (.one (I (k3 : Int))))], []⟩) (a_a.length) ⟨0, rfl, Nat.zero_le _, hz1, by kernel_rfl⟩ ?_
    clear hz1
    rintro m s ⟨k3, rfl, hk1, hz1, rfl⟩
    rcases drop_cases a_a k3 hk1 with ⟨hd1, rfl⟩ | ⟨x4, hd1, hx1, hlt1⟩
    · rw [hd1, i_EqualReservations_l1] at hz1
      refine aw_seq ?_
      refine aw_reg [] [0, 1, 12, 13, 14] [] [] ⟨[(0, none, .val (.one (.sl (List.map GReservation.enc a_a)))), (1, none, .val (.one (.sl (List.map GReservation.enc a_b)))), (12, none, .val (.one (I (a_a.length : Int)))), (13, none, .val (.one (I (a_a.length : Int)))), (14, none, .val (.one (b1 (decide (((a_a.length : Int) : Int) < (a_a.length : Int))))))], []⟩ [] (by kernel_rfl) trivial (?_)
      refine andThen_normal ?_
      refine aw_seq ?_
      refine aw_cond (decide (((a_a.length : Int) : Int) < (a_a.length : Int))) (by kernel_rfl) (fun h => absurd h (by simp)) (fun _ => ?_)
      refine aw_pick [] [] ⟨[], []⟩ (by kernel_rfl) ?_
      refine aw_exit (exit_thru (exit_thru (exit_here 0 (?_))))
      rw [← hz1, Sum.elim_inr] at hs
      refine andThen_normal ?_
      refine aw_seq ?_
      refine aw_reg [] [4] [] [] ⟨[(4, none, .val (.one (b1 true)))], []⟩ [] (by kernel_rfl) trivial (?_)
      refine andThen_normal ?_
      exact aw_ret (ends_data (ys := [.one (b1 true)]) (.inl rfl) (by kernel_rfl) (by kernel_rfl) hs)
    · rw [hd1, i_EqualReservations_l1] at hz1
      refine aw_seq ?_
      refine aw_reg [] [0, 1, 12, 13, 14] [] [] ⟨[(0, none, .val (.one (.sl (List.map GReservation.enc a_a)))), (1, none, .val (.one (.sl (List.map GReservation.enc a_b)))), (12, none, .val (.one (I (a_a.length : Int)))), (13, none, .val (.one (I (k3 : Int)))), (14, none, .val (.one (b1 (decide (((k3 : Int) : Int) < (a_a.length : Int))))))], []⟩ [] (by kernel_rfl) trivial (?_)
      refine andThen_normal ?_
      refine aw_seq ?_
      refine aw_cond (decide (((k3 : Int) : Int) < (a_a.length : Int))) (by kernel_rfl) (fun _ => ?_) (fun h => absurd h (by simp; omega))
      refine aw_pick [0, 1, 12, 13] [] ⟨[(0, none, .val (.one (.sl (List.map GReservation.enc a_a)))), (1, none, .val (.one (.sl (List.map GReservation.enc a_b)))), (12, none, .val (.one (I (a_a.length : Int)))), (13, none, .val (.one (I (k3 : Int))))], []⟩ (by kernel_rfl) ?_
      refine aw_skip ?_
      refine andThen_normal ?_
      refine aw_seq ?_
      refine aw_block ?_
      refine aw_seq ?_
      refine aw_reg [] [0, 1, 5, 12, 13] [] [] ⟨[(0, none, .val (.one (.sl (List.map GReservation.enc a_a)))), (1, none, .val (.one (.sl (List.map GReservation.enc a_b)))), (5, none, .val (.one (I (k3 : Int)))), (12, none, .val (.one (I (a_a.length : Int)))), (13, none, .val (.one (I (k3 : Int))))], []⟩ [] (by kernel_rfl) trivial (?_)
      refine andThen_normal ?_
      refine aw_seq ?_
      refine aw_drw [(18, .elem (GReservation.enc x4)), (22, .elem (GReservation.enc (a_b.getD k3 GReservation.zero)))] [0, 1, 2, 3, 4, 5, 6, 7, 8] [0, 1, 12, 13, 24] [] [] ⟨[(0, none, .val (.one (.sl (List.map GReservation.enc a_a)))), (1, none, .val (.one (.sl (List.map GReservation.enc a_b)))), (12, none, .val (.one (I (a_a.length : Int)))), (13, none, .val (.one (I (k3 : Int)))), (24, none, .val (.one (b1 (!(((x4.ID : Int) == ((a_b.getD k3 GReservation.zero).ID)) && (((x4.AS : Int) == ((a_b.getD k3 GReservation.zero).AS)) && (((x4.Interface : Int) == ((a_b.getD k3 GReservation.zero).Interface)) && (((x4.Rate : Int) == ((a_b.getD k3 GReservation.zero).Rate)) && (((x4.Until : Int) == ((a_b.getD k3 GReservation.zero).Until)) && true)))))))))], []⟩ [(0 : Int) ≤ (k3 : Int), (List.map GReservation.enc a_a)[((k3 : Int) : Int).toNat]? = some (GReservation.enc x4), (0 : Int) ≤ (k3 : Int), (List.map GReservation.enc a_b)[((k3 : Int) : Int).toNat]? = some (GReservation.enc (a_b.getD k3 GReservation.zero)), Try.prog.stoodInHeld 69 = false, Try.prog.eqGuardType Try.prog.depth 69 = false] (by kernel_rfl) (by kernel_rfl) (Nat.le_of_ble_eq_true rfl) (by kernel_rfl) ⟨(by first | omega | (simp only [List.length_map, List.length_append, List.length_cons, List.length_nil, List.length_replicate, List.length_set, decide_eq_true_eq, Bool.and_eq_true, Bool.not_eq_true', decide_eq_false_iff_not, Bool.cond_false_right, Bool.not_eq_false', Bool.cond_true_left, Bool.or_eq_false_iff, Bool.or_eq_true, bne_eq_false_iff_eq, bne_iff_ne, beq_iff_eq, beq_eq_false_iff_ne, ne_eq, Int.not_lt, Int.not_le, ge_iff_le, gt_iff_lt, maxLen] at *; omega)), (el_map hx1), (by first | omega | (simp only [List.length_map, List.length_append, List.length_cons, List.length_nil, List.length_replicate, List.length_set, decide_eq_true_eq, Bool.and_eq_true, Bool.not_eq_true', decide_eq_false_iff_not, Bool.cond_false_right, Bool.not_eq_false', Bool.cond_true_left, Bool.or_eq_false_iff, Bool.or_eq_true, bne_eq_false_iff_eq, bne_iff_ne, beq_iff_eq, beq_eq_false_iff_ne, ne_eq, Int.not_lt, Int.not_le, ge_iff_le, gt_iff_lt, maxLen] at *; omega)), (el_getD (n := (k3 : Int)) (by first | omega | (simp only [List.length_map, List.length_append, List.length_cons, List.length_nil, List.length_replicate, List.length_set, decide_eq_true_eq, Bool.and_eq_true, Bool.not_eq_true', decide_eq_false_iff_not, Bool.cond_false_right, Bool.not_eq_false', Bool.cond_true_left, Bool.or_eq_false_iff, Bool.or_eq_true, bne_eq_false_iff_eq, bne_iff_ne, beq_iff_eq, beq_eq_false_iff_ne, ne_eq, Int.not_lt, Int.not_le, ge_iff_le, gt_iff_lt, maxLen] at *; omega)) (by first | omega | (simp only [List.length_map, List.length_append, List.length_cons, List.length_nil, List.length_replicate, List.length_set, decide_eq_true_eq, Bool.and_eq_true, Bool.not_eq_true', decide_eq_false_iff_not, Bool.cond_false_right, Bool.not_eq_false', Bool.cond_true_left, Bool.or_eq_false_iff, Bool.or_eq_true, bne_eq_false_iff_eq, bne_iff_ne, beq_iff_eq, beq_eq_false_iff_ne, ne_eq, Int.not_lt, Int.not_le, ge_iff_le, gt_iff_lt, maxLen] at *; omega))), (by kernel_rfl), (by kernel_rfl), trivial⟩ (?_)
      refine andThen_normal ?_
      refine aw_cond (!(((x4.ID : Int) == ((a_b.getD k3 GReservation.zero).ID)) && (((x4.AS : Int) == ((a_b.getD k3 GReservation.zero).AS)) && (((x4.Interface : Int) == ((a_b.getD k3 GReservation.zero).Interface)) && (((x4.Rate : Int) == ((a_b.getD k3 GReservation.zero).Rate)) && (((x4.Until : Int) == ((a_b.getD k3 GReservation.zero).Until)) && true)))))) (by kernel_rfl) (fun h5 => ?_) (fun h5 => ?_)
      · rw [h5, cond_true] at hz1
        refine aw_seq ?_
        refine aw_reg [] [4] [] [] ⟨[(4, none, .val (.one (b1 false)))], []⟩ [] (by kernel_rfl) trivial (?_)
        refine andThen_normal ?_
        rw [← hz1, Sum.elim_inl] at hs
        exact aw_ret (ret_blk (ret_thru (ret_thru (ret_blk (ret_thru (ends_data (ys := [.one (b1 false)]) (.inl rfl) (by kernel_rfl) (by kernel_rfl) hs))))))
      · rw [h5, cond_false] at hz1
        refine aw_pick [0, 1, 12, 13] [] ⟨[(0, none, .val (.one (.sl (List.map GReservation.enc a_a)))), (1, none, .val (.one (.sl (List.map GReservation.enc a_b)))), (12, none, .val (.one (I (a_a.length : Int)))), (13, none, .val (.one (I (k3 : Int))))], []⟩ (by kernel_rfl) ?_
        refine aw_skip ?_
        refine blk_normal ?_
        refine andThen_normal ?_
        refine aw_reg [] [0, 1, 12, 13] [] [] ⟨[(0, none, .val (.one (.sl (List.map GReservation.enc a_a)))), (1, none, .val (.one (.sl (List.map GReservation.enc a_b)))), (12, none, .val (.one (I (a_a.length : Int)))), (13, none, .val (.one (I (wr ((k3 : Int) + 1)))))], []⟩ [] (by kernel_rfl) trivial (?_)
        exact ⟨a_a.length - (k3 + 1), by omega, k3 + 1, rfl, by omega, hz1, by rw [show wr ((k3 : Int) + 1) = ((k3 + 1 : Nat) : Int) from wrap_succ (by omega)]⟩

theorem l_eqReservation_ok (a_a : GReservation) (a_b : GReservation) : MeetsAt Try.prog 105 [.agg (GReservation.enc a_a), .agg (GReservation.enc a_b)] [.one (b1 (l_eqReservation a_a a_b))] none := by
  generalize hs : ([.one (b1 (l_eqReservation a_a a_b))] : List AV) = outs
  unfold l_eqReservation at hs
  refine meets_data Try.func105 rfl (by kernel_rfl) (Nat.le_of_ble_eq_true rfl) ?_
  rintro ⟨P, m, w0, B, src, hsrc⟩ rfl rfl
  refine aw_seq ?_
  refine aw_reg [] [2, 3] [2, 3] [] ⟨[(2, none, .val (.one (.ptr 2 0))), (3, none, .val (.one (.ptr 3 0)))], [(2, .box [I a_a.ID, I a_a.AS, I a_a.Interface, I a_a.Rate, I a_a.Until]), (3, .box [I a_b.ID, I a_b.AS, I a_b.Interface, I a_b.Rate, I a_b.Until])]⟩ [] (by kernel_rfl) trivial (?_)
  refine andThen_normal ?_
  refine aw_seq ?_
  refine aw_seq ?_
  refine aw_reg [] [2, 3, 9] [2, 3] [] ⟨[(2, none, .val (.one (.ptr 2 0))), (3, none, .val (.one (.ptr 3 0))), (9, none, .val (.one (b1 ((a_a.ID : Int) != a_b.ID))))], [(2, .box [I a_a.ID, I a_a.AS, I a_a.Interface, I a_a.Rate, I a_a.Until]), (3, .box [I a_b.ID, I a_b.AS, I a_b.Interface, I a_b.Rate, I a_b.Until])]⟩ [] (by kernel_rfl) trivial (?_)
  refine andThen_normal ?_
  refine aw_cond ((a_a.ID : Int) != a_b.ID) (by kernel_rfl) (fun h1 => ?_) (fun h1 => ?_)
  · rw [h1, cond_true] at hs
    refine aw_seq ?_
    refine aw_reg [] [4] [] [] ⟨[(4, none, .val (.one (b1 false)))], []⟩ [] (by kernel_rfl) trivial (?_)
    refine andThen_normal ?_
    exact aw_ret (ret_thru (ends_data (ys := [.one (b1 false)]) (.inl rfl) (by kernel_rfl) (by kernel_rfl) hs))
  · rw [h1, cond_false] at hs
    refine aw_pick [2, 3] [2, 3] ⟨[(2, none, .val (.one (.ptr 2 0))), (3, none, .val (.one (.ptr 3 0)))], [(2, .box [I a_a.ID, I a_a.AS, I a_a.Interface, I a_a.Rate, I a_a.Until]), (3, .box [I a_b.ID, I a_b.AS, I a_b.Interface, I a_b.Rate, I a_b.Until])]⟩ (by kernel_rfl) ?_
    refine aw_skip ?_
    refine andThen_normal ?_
    refine aw_seq ?_
    refine aw_seq ?_
    refine aw_reg [] [2, 3, 14] [2, 3] [] ⟨[(2, none, .val (.one (.ptr 2 0))), (3, none, .val (.one (.ptr 3 0))), (14, none, .val (.one (b1 ((a_a.AS : Int) != a_b.AS))))], [(2, .box [I a_a.ID, I a_a.AS, I a_a.Interface, I a_a.Rate, I a_a.Until]), (3, .box [I a_b.ID, I a_b.AS, I a_b.Interface, I a_b.Rate, I a_b.Until])]⟩ [] (by kernel_rfl) trivial (?_)
    refine andThen_normal ?_
    refine aw_cond ((a_a.AS : Int) != a_b.AS) (by kernel_rfl) (fun h2 => ?_) (fun h2 => ?_)
    · rw [h2, cond_true] at hs
      refine aw_seq ?_
      refine aw_reg [] [4] [] [] ⟨[(4, none, .val (.one (b1 false)))], []⟩ [] (by kernel_rfl) trivial (?_)
      refine andThen_normal ?_
      exact aw_ret (ret_thru (ends_data (ys := [.one (b1 false)]) (.inl rfl) (by kernel_rfl) (by kernel_rfl) hs))
    · rw [h2, cond_false] at hs
      refine aw_pick [2, 3] [2, 3] ⟨[(2, none, .val (.one (.ptr 2 0))), (3, none, .val (.one (.ptr 3 0)))], [(2, .box [I a_a.ID, I a_a.AS, I a_a.Interface, I a_a.Rate, I a_a.Until]), (3, .box [I a_b.ID, I a_b.AS, I a_b.Interface, I a_b.Rate, I a_b.Until])]⟩ (by kernel_rfl) ?_
      refine aw_skip ?_
      refine andThen_normal ?_
      refine aw_seq ?_
      refine aw_seq ?_
      refine aw_reg [] [2, 3, 19] [2, 3] [] ⟨[(2, none, .val (.one (.ptr 2 0))), (3, none, .val (.one (.ptr 3 0))), (19, none, .val (.one (b1 ((a_a.Interface : Int) != a_b.Interface))))], [(2, .box [I a_a.ID, I a_a.AS, I a_a.Interface, I a_a.Rate, I a_a.Until]), (3, .box [I a_b.ID, I a_b.AS, I a_b.Interface, I a_b.Rate, I a_b.Until])]⟩ [] (by kernel_rfl) trivial (?_)
      refine andThen_normal ?_
      refine aw_cond ((a_a.Interface : Int) != a_b.Interface) (by kernel_rfl) (fun h3 => ?_) (fun h3 => ?_)
      · rw [h3, cond_true] at hs
        refine aw_seq ?_
        refine aw_reg [] [4] [] [] ⟨[(4, none, .val (.one (b1 false)))], []⟩ [] (by kernel_rfl) trivial (?_)
        refine andThen_normal ?_
        exact aw_ret (ret_thru (ends_data (ys := [.one (b1 false)]) (.inl rfl) (by kernel_rfl) (by kernel_rfl) hs))
      · rw [h3, cond_false] at hs
        refine aw_pick [2, 3] [2, 3] ⟨[(2, none, .val (.one (.ptr 2 0))), (3, none, .val (.one (.ptr 3 0)))], [(2, .box [I a_a.ID, I a_a.AS, I a_a.Interface, I a_a.Rate, I a_a.Until]), (3, .box [I a_b.ID, I a_b.AS, I a_b.Interface, I a_b.Rate, I a_b.Until])]⟩ (by kernel_rfl) ?_
        refine aw_skip ?_
        refine andThen_normal ?_
        refine aw_seq ?_
        refine aw_seq ?_
        refine aw_reg [] [2, 3, 24] [2, 3] [] ⟨[(2, none, .val (.one (.ptr 2 0))), (3, none, .val (.one (.ptr 3 0))), (24, none, .val (.one (b1 ((a_a.Rate : Int) != a_b.Rate))))], [(2, .box [I a_a.ID, I a_a.AS, I a_a.Interface, I a_a.Rate, I a_a.Until]), (3, .box [I a_b.ID, I a_b.AS, I a_b.Interface, I a_b.Rate, I a_b.Until])]⟩ [] (by kernel_rfl) trivial (?_)
        refine andThen_normal ?_
        refine aw_cond ((a_a.Rate : Int) != a_b.Rate) (by kernel_rfl) (fun h4 => ?_) (fun h4 => ?_)
        · rw [h4, cond_true] at hs
          refine aw_seq ?_
          refine aw_reg [] [4] [] [] ⟨[(4, none, .val (.one (b1 false)))], []⟩ [] (by kernel_rfl) trivial (?_)
          refine andThen_normal ?_
          exact aw_ret (ret_thru (ends_data (ys := [.one (b1 false)]) (.inl rfl) (by kernel_rfl) (by kernel_rfl) hs))
        · rw [h4, cond_false] at hs
          refine aw_pick [2, 3] [2, 3] ⟨[(2, none, .val (.one (.ptr 2 0))), (3, none, .val (.one (.ptr 3 0)))], [(2, .box [I a_a.ID, I a_a.AS, I a_a.Interface, I a_a.Rate, I a_a.Until]), (3, .box [I a_b.ID, I a_b.AS, I a_b.Interface, I a_b.Rate, I a_b.Until])]⟩ (by kernel_rfl) ?_
          refine aw_skip ?_
          refine andThen_normal ?_
          refine aw_seq ?_
          refine aw_seq ?_
          refine aw_reg [] [29] [] [] ⟨[(29, none, .val (.one (b1 ((a_a.Until : Int) != a_b.Until))))], []⟩ [] (by kernel_rfl) trivial (?_)
          refine andThen_normal ?_
          refine aw_cond ((a_a.Until : Int) != a_b.Until) (by kernel_rfl) (fun h5 => ?_) (fun h5 => ?_)
          · rw [h5, cond_true] at hs
            refine aw_seq ?_
            refine aw_reg [] [4] [] [] ⟨[(4, none, .val (.one (b1 false)))], []⟩ [] (by kernel_rfl) trivial (?_)
            refine andThen_normal ?_
            exact aw_ret (ret_thru (ends_data (ys := [.one (b1 false)]) (.inl rfl) (by kernel_rfl) (by kernel_rfl) hs))
          · rw [h5, cond_false] at hs
            refine aw_pick [] [] ⟨[], []⟩ (by kernel_rfl) ?_
            refine aw_skip ?_
            refine andThen_normal ?_
            refine aw_seq ?_
            refine aw_reg [] [4] [] [] ⟨[(4, none, .val (.one (b1 true)))], []⟩ [] (by kernel_rfl) trivial (?_)
            refine andThen_normal ?_
            exact aw_ret (ends_data (ys := [.one (b1 true)]) (.inl rfl) (by kernel_rfl) (by kernel_rfl) hs)

theorem l_eqUsage_ok (a_a : GUsage) (a_b : GUsage) : MeetsAt Try.prog 106 [.agg (GUsage.enc a_a), .agg (GUsage.enc a_b)] [.one (b1 (l_eqUsage a_a a_b))] none := by
  generalize hs : ([.one (b1 (l_eqUsage a_a a_b))] : List AV) = outs
  unfold l_eqUsage at hs
  refine meets_data Try.func106 rfl (by kernel_rfl) (Nat.le_of_ble_eq_true rfl) ?_
  rintro ⟨P, m, w0, B, src, hsrc⟩ rfl rfl
  refine aw_seq ?_
  refine aw_reg [] [2, 3] [2, 3] [] ⟨[(2, none, .val (.one (.ptr 2 0))), (3, none, .val (.one (.ptr 3 0)))], [(2, .box [I a_a.ID, I a_a.AS, I a_a.Interface, I a_a.Count]), (3, .box [I a_b.ID, I a_b.AS, I a_b.Interface, I a_b.Count])]⟩ [] (by kernel_rfl) trivial (?_)
  refine andThen_normal ?_
  refine aw_seq ?_
  refine aw_seq ?_
  refine aw_reg [] [2, 3, 9] [2, 3] [] ⟨[(2, none, .val (.one (.ptr 2 0))), (3, none, .val (.one (.ptr 3 0))), (9, none, .val (.one (b1 ((a_a.ID : Int) != a_b.ID))))], [(2, .box [I a_a.ID, I a_a.AS, I a_a.Interface, I a_a.Count]), (3, .box [I a_b.ID, I a_b.AS, I a_b.Interface, I a_b.Count])]⟩ [] (by kernel_rfl) trivial (?_)
  refine andThen_normal ?_
  refine aw_cond ((a_a.ID : Int) != a_b.ID) (by kernel_rfl) (fun h1 => ?_) (fun h1 => ?_)
  · rw [h1, cond_true] at hs
    refine aw_seq ?_
    refine aw_reg [] [4] [] [] ⟨[(4, none, .val (.one (b1 false)))], []⟩ [] (by kernel_rfl) trivial (?_)
    refine andThen_normal ?_
    exact aw_ret (ret_thru (ends_data (ys := [.one (b1 false)]) (.inl rfl) (by kernel_rfl) (by kernel_rfl) hs))
  · rw [h1, cond_false] at hs
    refine aw_pick [2, 3] [2, 3] ⟨[(2, none, .val (.one (.ptr 2 0))), (3, none, .val (.one (.ptr 3 0)))], [(2, .box [I a_a.ID, I a_a.AS, I a_a.Interface, I a_a.Count]), (3, .box [I a_b.ID, I a_b.AS, I a_b.Interface, I a_b.Count])]⟩ (by kernel_rfl) ?_
    refine aw_skip ?_
    refine andThen_normal ?_
    refine aw_seq ?_
    refine aw_seq ?_
    refine aw_reg [] [2, 3, 14] [2, 3] [] ⟨[(2, none, .val (.one (.ptr 2 0))), (3, none, .val (.one (.ptr 3 0))), (14, none, .val (.one (b1 ((a_a.AS : Int) != a_b.AS))))], [(2, .box [I a_a.ID, I a_a.AS, I a_a.Interface, I a_a.Count]), (3, .box [I a_b.ID, I a_b.AS, I a_b.Interface, I a_b.Count])]⟩ [] (by kernel_rfl) trivial (?_)
    refine andThen_normal ?_
    refine aw_cond ((a_a.AS : Int) != a_b.AS) (by kernel_rfl) (fun h2 => ?_) (fun h2 => ?_)
    · rw [h2, cond_true] at hs
      refine aw_seq ?_
      refine aw_reg [] [4] [] [] ⟨[(4, none, .val (.one (b1 false)))], []⟩ [] (by kernel_rfl) trivial (?_)
      refine andThen_normal ?_
      exact aw_ret (ret_thru (ends_data (ys := [.one (b1 false)]) (.inl rfl) (by kernel_rfl) (by kernel_rfl) hs))
    · rw [h2, cond_false] at hs
      refine aw_pick [2, 3] [2, 3] ⟨[(2, none, .val (.one (.ptr 2 0))), (3, none, .val (.one (.ptr 3 0)))], [(2, .box [I a_a.ID, I a_a.AS, I a_a.Interface, I a_a.Count]), (3, .box [I a_b.ID, I a_b.AS, I a_b.Interface, I a_b.Count])]⟩ (by kernel_rfl) ?_
      refine aw_skip ?_
      refine andThen_normal ?_
      refine aw_seq ?_
      refine aw_seq ?_
      refine aw_reg [] [2, 3, 19] [2, 3] [] ⟨[(2, none, .val (.one (.ptr 2 0))), (3, none, .val (.one (.ptr 3 0))), (19, none, .val (.one (b1 ((a_a.Interface : Int) != a_b.Interface))))], [(2, .box [I a_a.ID, I a_a.AS, I a_a.Interface, I a_a.Count]), (3, .box [I a_b.ID, I a_b.AS, I a_b.Interface, I a_b.Count])]⟩ [] (by kernel_rfl) trivial (?_)
      refine andThen_normal ?_
      refine aw_cond ((a_a.Interface : Int) != a_b.Interface) (by kernel_rfl) (fun h3 => ?_) (fun h3 => ?_)
      · rw [h3, cond_true] at hs
        refine aw_seq ?_
        refine aw_reg [] [4] [] [] ⟨[(4, none, .val (.one (b1 false)))], []⟩ [] (by kernel_rfl) trivial (?_)
        refine andThen_normal ?_
        exact aw_ret (ret_thru (ends_data (ys := [.one (b1 false)]) (.inl rfl) (by kernel_rfl) (by kernel_rfl) hs))
      · rw [h3, cond_false] at hs
        refine aw_pick [2, 3] [2, 3] ⟨[(2, none, .val (.one (.ptr 2 0))), (3, none, .val (.one (.ptr 3 0)))], [(2, .box [I a_a.ID, I a_a.AS, I a_a.Interface, I a_a.Count]), (3, .box [I a_b.ID, I a_b.AS, I a_b.Interface, I a_b.Count])]⟩ (by kernel_rfl) ?_
        refine aw_skip ?_
        refine andThen_normal ?_
        refine aw_seq ?_
        refine aw_seq ?_
        refine aw_reg [] [24] [] [] ⟨[(24, none, .val (.one (b1 ((a_a.Count : Int) != a_b.Count))))], []⟩ [] (by kernel_rfl) trivial (?_)
        refine andThen_normal ?_
        refine aw_cond ((a_a.Count : Int) != a_b.Count) (by kernel_rfl) (fun h4 => ?_) (fun h4 => ?_)
        · rw [h4, cond_true] at hs
          refine aw_seq ?_
          refine aw_reg [] [4] [] [] ⟨[(4, none, .val (.one (b1 false)))], []⟩ [] (by kernel_rfl) trivial (?_)
          refine andThen_normal ?_
          exact aw_ret (ret_thru (ends_data (ys := [.one (b1 false)]) (.inl rfl) (by kernel_rfl) (by kernel_rfl) hs))
        · rw [h4, cond_false] at hs
          refine aw_pick [] [] ⟨[], []⟩ (by kernel_rfl) ?_
          refine aw_skip ?_
          refine andThen_normal ?_
          refine aw_seq ?_
          refine aw_reg [] [4] [] [] ⟨[(4, none, .val (.one (b1 true)))], []⟩ [] (by kernel_rfl) trivial (?_)
          refine andThen_normal ?_
          exact aw_ret (ends_data (ys := [.one (b1 true)]) (.inl rfl) (by kernel_rfl) (by kernel_rfl) hs)

theorem l_toReservation_ok (a_a : GReservation) (hp : SmL a_a.enc) : MeetsAt Try.prog 107 [.agg (GReservation.enc a_a)] [.agg (GReservation.enc (l_toReservation a_a))] none := by
  generalize hs : ([.agg (GReservation.enc (l_toReservation a_a))] : List AV) = outs
  unfold l_toReservation at hs
  refine meets_data Try.func107 rfl (by kernel_rfl) (Nat.le_of_ble_eq_true rfl) ?_
  rintro ⟨P, m, w0, B, src, hsrc⟩ rfl rfl
  refine aw_seq ?_
  refine aw_reg [] [1, 2] [1, 2] [] ⟨[(1, none, .val (.one (.ptr 1 0))), (2, none, .val (.one (.ptr 2 0)))], [(1, .box [I a_a.ID, I a_a.AS, I a_a.Interface, I a_a.Rate, I a_a.Until]), (2, .box [I 0, I 0, I 0, I 0, I 0])]⟩ [] (by kernel_rfl) trivial (?_)
  refine andThen_normal ?_
  refine aw_seq ?_
  refine aw_reg [] [1, 2, 3] [1, 2, 3] [] ⟨[(1, none, .val (.one (.ptr 1 0))), (2, none, .val (.one (.ptr 2 0))), (3, none, .val (.one (.ptr 3 0)))], [(1, .box [I a_a.ID, I a_a.AS, I a_a.Interface, I a_a.Rate, I a_a.Until]), (2, .box [I 0, I 0, I 0, I 0, I 0]), (3, .box [I 0, I 0, I 0, I 0, I 0])]⟩ [] (by kernel_rfl) trivial (?_)
  refine andThen_normal ?_
  refine aw_seq ?_
  refine aw_reg [] [1, 2, 3] [1, 2, 3] [] ⟨[(1, none, .val (.one (.ptr 1 0))), (2, none, .val (.one (.ptr 2 0))), (3, none, .val (.one (.ptr 3 0)))], [(1, .box [I a_a.ID, I a_a.AS, I a_a.Interface, I a_a.Rate, I a_a.Until]), (2, .box [I 0, I 0, I 0, I 0, I 0]), (3, .box [I a_a.ID, I 0, I 0, I 0, I 0])]⟩ [] (by kernel_rfl) trivial (?_)
  refine andThen_normal ?_
  refine aw_seq ?_
  refine aw_reg [] [1, 2, 3] [1, 2, 3] [] ⟨[(1, none, .val (.one (.ptr 1 0))), (2, none, .val (.one (.ptr 2 0))), (3, none, .val (.one (.ptr 3 0)))], [(1, .box [I a_a.ID, I a_a.AS, I a_a.Interface, I a_a.Rate, I a_a.Until]), (2, .box [I 0, I 0, I 0, I 0, I 0]), (3, .box [I a_a.ID, I a_a.AS, I 0, I 0, I 0])]⟩ [] (by kernel_rfl) trivial (?_)
  refine andThen_normal ?_
  refine aw_seq ?_
  refine aw_reg [] [1, 2, 3] [1, 2, 3] [] ⟨[(1, none, .val (.one (.ptr 1 0))), (2, none, .val (.one (.ptr 2 0))), (3, none, .val (.one (.ptr 3 0)))], [(1, .box [I a_a.ID, I a_a.AS, I a_a.Interface, I a_a.Rate, I a_a.Until]), (2, .box [I 0, I 0, I 0, I 0, I 0]), (3, .box [I a_a.ID, I a_a.AS, I a_a.Interface, I 0, I 0])]⟩ [] (by kernel_rfl) trivial (?_)
  refine andThen_normal ?_
  refine aw_seq ?_
  refine aw_reg [] [1, 2, 3] [1, 2, 3] [] ⟨[(1, none, .val (.one (.ptr 1 0))), (2, none, .val (.one (.ptr 2 0))), (3, none, .val (.one (.ptr 3 0)))], [(1, .box [I a_a.ID, I a_a.AS, I a_a.Interface, I a_a.Rate, I a_a.Until]), (2, .box [I 0, I 0, I 0, I 0, I 0]), (3, .box [I a_a.ID, I a_a.AS, I a_a.Interface, I a_a.Rate, I 0])]⟩ [] (by kernel_rfl) trivial (?_)
  refine andThen_normal ?_
  refine aw_seq ?_
  refine aw_reg [] [2, 3] [2, 3] [] ⟨[(2, none, .val (.one (.ptr 2 0))), (3, none, .val (.one (.ptr 3 0)))], [(2, .box [I 0, I 0, I 0, I 0, I 0]), (3, .box [I a_a.ID, I a_a.AS, I a_a.Interface, I a_a.Rate, I a_a.Until])]⟩ [] (by kernel_rfl) trivial (?_)
  refine andThen_normal ?_
  refine aw_seq ?_
  refine aw_reg [] [2] [2] [] ⟨[(2, none, .val (.one (.ptr 2 0)))], [(2, .box [I a_a.ID, I a_a.AS, I a_a.Interface, I a_a.Rate, I a_a.Until])]⟩ [] (by kernel_rfl) trivial (?_)
  refine andThen_normal ?_
  exact aw_ret (ends_data (ys := [.agg [I a_a.ID, I a_a.AS, I a_a.Interface, I a_a.Rate, I a_a.Until]]) (.inl rfl) (by kernel_rfl) (by kernel_rfl) hs)

theorem l_toUsage_ok (a_a : GUsage) (hp : SmL a_a.enc) : MeetsAt Try.prog 108 [.agg (GUsage.enc a_a)] [.agg (GUsage.enc (l_toUsage a_a))] none := by
  generalize hs : ([.agg (GUsage.enc (l_toUsage a_a))] : List AV) = outs
  unfold l_toUsage at hs
  refine meets_data Try.func108 rfl (by kernel_rfl) (Nat.le_of_ble_eq_true rfl) ?_
  rintro ⟨P, m, w0, B, src, hsrc⟩ rfl rfl
  refine aw_seq ?_
  refine aw_reg [] [1, 2] [1, 2] [] ⟨[(1, none, .val (.one (.ptr 1 0))), (2, none, .val (.one (.ptr 2 0)))], [(1, .box [I a_a.ID, I a_a.AS, I a_a.Interface, I a_a.Count]), (2, .box [I 0, I 0, I 0, I 0])]⟩ [] (by kernel_rfl) trivial (?_)
  refine andThen_normal ?_
  refine aw_seq ?_
  refine aw_reg [] [1, 2, 3] [1, 2, 3] [] ⟨[(1, none, .val (.one (.ptr 1 0))), (2, none, .val (.one (.ptr 2 0))), (3, none, .val (.one (.ptr 3 0)))], [(1, .box [I a_a.ID, I a_a.AS, I a_a.Interface, I a_a.Count]), (2, .box [I 0, I 0, I 0, I 0]), (3, .box [I 0, I 0, I 0, I 0])]⟩ [] (by kernel_rfl) trivial (?_)
  refine andThen_normal ?_
  refine aw_seq ?_
  refine aw_reg [] [1, 2, 3] [1, 2, 3] [] ⟨[(1, none, .val (.one (.ptr 1 0))), (2, none, .val (.one (.ptr 2 0))), (3, none, .val (.one (.ptr 3 0)))], [(1, .box [I a_a.ID, I a_a.AS, I a_a.Interface, I a_a.Count]), (2, .box [I 0, I 0, I 0, I 0]), (3, .box [I a_a.ID, I 0, I 0, I 0])]⟩ [] (by kernel_rfl) trivial (?_)
  refine andThen_normal ?_
  refine aw_seq ?_
  refine aw_reg [] [1, 2, 3] [1, 2, 3] [] ⟨[(1, none, .val (.one (.ptr 1 0))), (2, none, .val (.one (.ptr 2 0))), (3, none, .val (.one (.ptr 3 0)))], [(1, .box [I a_a.ID, I a_a.AS, I a_a.Interface, I a_a.Count]), (2, .box [I 0, I 0, I 0, I 0]), (3, .box [I a_a.ID, I a_a.AS, I 0, I 0])]⟩ [] (by kernel_rfl) trivial (?_)
  refine andThen_normal ?_
  refine aw_seq ?_
  refine aw_reg [] [1, 2, 3] [1, 2, 3] [] ⟨[(1, none, .val (.one (.ptr 1 0))), (2, none, .val (.one (.ptr 2 0))), (3, none, .val (.one (.ptr 3 0)))], [(1, .box [I a_a.ID, I a_a.AS, I a_a.Interface, I a_a.Count]), (2, .box [I 0, I 0, I 0, I 0]), (3, .box [I a_a.ID, I a_a.AS, I a_a.Interface, I 0])]⟩ [] (by kernel_rfl) trivial (?_)
  refine andThen_normal ?_
  refine aw_seq ?_
  refine aw_reg [] [2, 3] [2, 3] [] ⟨[(2, none, .val (.one (.ptr 2 0))), (3, none, .val (.one (.ptr 3 0)))], [(2, .box [I 0, I 0, I 0, I 0]), (3, .box [I a_a.ID, I a_a.AS, I a_a.Interface, I a_a.Count])]⟩ [] (by kernel_rfl) trivial (?_)
  refine andThen_normal ?_
  refine aw_seq ?_
  refine aw_reg [] [2] [2] [] ⟨[(2, none, .val (.one (.ptr 2 0)))], [(2, .box [I a_a.ID, I a_a.AS, I a_a.Interface, I a_a.Count])]⟩ [] (by kernel_rfl) trivial (?_)
  refine andThen_normal ?_
  exact aw_ret (ends_data (ys := [.agg [I a_a.ID, I a_a.AS, I a_a.Interface, I a_a.Count]]) (.inl rfl) (by kernel_rfl) (by kernel_rfl) hs)

theorem l_szScheduler_ok (a_a : GScheduler) (a_left : Int) : MeetsAt Try.prog 38 [.agg (GScheduler.enc a_a), .one (I a_left)] [.one (I (l_szScheduler a_a a_left))] none := by
  generalize hs : ([.one (I (l_szScheduler a_a a_left))] : List AV) = outs
  unfold l_szScheduler at hs
  refine meets_data Try.func38 rfl (by kernel_rfl) (Nat.le_of_ble_eq_true rfl) ?_
  rintro ⟨P, m, w0, B, src, hsrc⟩ rfl rfl
  refine aw_seq ?_
  refine aw_reg [] [1, 2] [2] [] ⟨[(1, none, .val (.one (I a_left))), (2, none, .val (.one (.ptr 2 0)))], [(2, .box [I a_a.Capacity, .sl (List.map GReservation.enc a_a.Reservations), .sl (List.map GUsage.enc a_a.Usages)])]⟩ [] (by kernel_rfl) trivial (?_)
  refine andThen_normal ?_
  refine aw_seq ?_
  refine aw_reg [(8, .call [.one (.sl (List.map GReservation.enc a_a.Reservations)), .one (I a_left)] [.one (I (l_szReservationS a_a.Reservations a_left))] (none))] [1, 2] [2] [] ⟨[(1, none, .val (.one (I (l_szReservationS a_a.Reservations a_left)))), (2, none, .val (.one (.ptr 2 0)))], [(2, .box [I a_a.Capacity, .sl (List.map GReservation.enc a_a.Reservations), .sl (List.map GUsage.enc a_a.Usages)])]⟩ [([.one (.sl (List.map GReservation.enc a_a.Reservations)), .one (I a_left)] : List AV) = [.one (.sl (List.map GReservation.enc a_a.Reservations)), .one (I a_left)], MeetsAt Try.prog 72 [.one (.sl (List.map GReservation.enc a_a.Reservations)), .one (I a_left)] [.one (I (l_szReservationS a_a.Reservations a_left))] (none)] (by kernel_rfl) ⟨rfl, (l_szReservationS_ok a_a.Reservations a_left), trivial⟩ (?_)
  refine andThen_normal ?_
  refine aw_seq ?_
  refine aw_seq ?_
  refine aw_reg [] [1, 2, 10] [2] [] ⟨[(1, none, .val (.one (I (l_szReservationS a_a.Reservations a_left)))), (2, none, .val (.one (.ptr 2 0))), (10, none, .val (.one (b1 (decide (((l_szReservationS a_a.Reservations a_left) : Int) < 0)))))], [(2, .box [I a_a.Capacity, .sl (List.map GReservation.enc a_a.Reservations), .sl (List.map GUsage.enc a_a.Usages)])]⟩ [] (by kernel_rfl) trivial (?_)
  refine andThen_normal ?_
  refine aw_cond (decide (((l_szReservationS a_a.Reservations a_left) : Int) < 0)) (by kernel_rfl) (fun h1 => ?_) (fun h1 => ?_)
  · rw [h1, cond_true] at hs
    refine aw_seq ?_
    refine aw_reg [] [4] [] [] ⟨[(4, none, .val (.one (I (-1))))], []⟩ [] (by kernel_rfl) trivial (?_)
    refine andThen_normal ?_
    exact aw_ret (ret_thru (ends_data (ys := [.one (I (-1))]) (.inl rfl) (by kernel_rfl) (by kernel_rfl) hs))
  · rw [h1, cond_false] at hs
    refine aw_pick [1, 2] [2] ⟨[(1, none, .val (.one (I (l_szReservationS a_a.Reservations a_left)))), (2, none, .val (.one (.ptr 2 0)))], [(2, .box [I a_a.Capacity, .sl (List.map GReservation.enc a_a.Reservations), .sl (List.map GUsage.enc a_a.Usages)])]⟩ (by kernel_rfl) ?_
    refine aw_skip ?_
    refine andThen_normal ?_
    refine aw_seq ?_
    refine aw_reg [(14, .call [.one (.sl (List.map GUsage.enc a_a.Usages)), .one (I (l_szReservationS a_a.Reservations a_left))] [.one (I (l_szUsageS a_a.Usages (l_szReservationS a_a.Reservations a_left)))] (none))] [1] [] [] ⟨[(1, none, .val (.one (I (l_szUsageS a_a.Usages (l_szReservationS a_a.Reservations a_left)))))], []⟩ [([.one (.sl (List.map GUsage.enc a_a.Usages)), .one (I (l_szReservationS a_a.Reservations a_left))] : List AV) = [.one (.sl (List.map GUsage.enc a_a.Usages)), .one (I (l_szReservationS a_a.Reservations a_left))], MeetsAt Try.prog 73 [.one (.sl (List.map GUsage.enc a_a.Usages)), .one (I (l_szReservationS a_a.Reservations a_left))] [.one (I (l_szUsageS a_a.Usages (l_szReservationS a_a.Reservations a_left)))] (none)] (by kernel_rfl) ⟨rfl, (l_szUsageS_ok a_a.Usages (l_szReservationS a_a.Reservations a_left)), trivial⟩ (?_)
    refine andThen_normal ?_
    refine aw_seq ?_
    refine aw_seq ?_
    refine aw_reg [] [1, 16] [] [] ⟨[(1, none, .val (.one (I (l_szUsageS a_a.Usages (l_szReservationS a_a.Reservations a_left))))), (16, none, .val (.one (b1 (decide (((l_szUsageS a_a.Usages (l_szReservationS a_a.Reservations a_left)) : Int) < 0)))))], []⟩ [] (by kernel_rfl) trivial (?_)
    refine andThen_normal ?_
    refine aw_cond (decide (((l_szUsageS a_a.Usages (l_szReservationS a_a.Reservations a_left)) : Int) < 0)) (by kernel_rfl) (fun h2 => ?_) (fun h2 => ?_)
    · rw [h2, cond_true] at hs
      refine aw_seq ?_
      refine aw_reg [] [4] [] [] ⟨[(4, none, .val (.one (I (-1))))], []⟩ [] (by kernel_rfl) trivial (?_)
      refine andThen_normal ?_
      exact aw_ret (ret_thru (ends_data (ys := [.one (I (-1))]) (.inl rfl) (by kernel_rfl) (by kernel_rfl) hs))
    · rw [h2, cond_false] at hs
      refine aw_pick [1] [] ⟨[(1, none, .val (.one (I (l_szUsageS a_a.Usages (l_szReservationS a_a.Reservations a_left)))))], []⟩ (by kernel_rfl) ?_
      refine aw_skip ?_
      refine andThen_normal ?_
      refine aw_seq ?_
      refine aw_reg [] [4] [] [] ⟨[(4, none, .val (.one (I (l_szUsageS a_a.Usages (l_szReservationS a_a.Reservations a_left)))))], []⟩ [] (by kernel_rfl) trivial (?_)
      refine andThen_normal ?_
      exact aw_ret (ends_data (ys := [.one (I (l_szUsageS a_a.Usages (l_szReservationS a_a.Reservations a_left)))]) (.inl rfl) (by kernel_rfl) (by kernel_rfl) hs)

theorem s_EqualSchedulers_ok (a_a : GScheduler) (a_b : GScheduler) : MeetsAt Try.prog 39 [.agg (GScheduler.enc a_a), .agg (GScheduler.enc a_b)] [.one (b1 (s_EqualSchedulers a_a a_b))] none := by
  generalize hs : ([.one (b1 (s_EqualSchedulers a_a a_b))] : List AV) = outs
  unfold s_EqualSchedulers at hs
  refine meets_data Try.func39 rfl (by kernel_rfl) (Nat.le_of_ble_eq_true rfl) ?_
  rintro ⟨P, m, w0, B, src, hsrc⟩ rfl rfl
  refine aw_seq ?_
  refine aw_reg [] [2, 3] [2, 3] [] ⟨[(2, none, .val (.one (.ptr 2 0))), (3, none, .val (.one (.ptr 3 0)))], [(2, .box [I a_a.Capacity, .sl (List.map GReservation.enc a_a.Reservations), .sl (List.map GUsage.enc a_a.Usages)]), (3, .box [I a_b.Capacity, .sl (List.map GReservation.enc a_b.Reservations), .sl (List.map GUsage.enc a_b.Usages)])]⟩ [] (by kernel_rfl) trivial (?_)
  refine andThen_normal ?_
  refine aw_seq ?_
  refine aw_seq ?_
  refine aw_reg [(16, .call [.one (.sl (List.map GReservation.enc a_a.Reservations)), .one (.sl (List.map GReservation.enc a_b.Reservations))] [.one (b1 (s_EqualReservations a_a.Reservations a_b.Reservations))] (none))] [2, 3, 27] [2, 3] [] ⟨[(2, none, .val (.one (.ptr 2 0))), (3, none, .val (.one (.ptr 3 0))), (27, none, .val (.one (b1 (cond (cond ((a_a.Capacity : Int) != a_b.Capacity) true (!(s_EqualReservations a_a.Reservations a_b.Reservations))) true ((((List.map GUsage.enc a_a.Usages).length : Int) : Int) != ((List.map GUsage.enc a_b.Usages).length : Int))))))], [(2, .box [I a_a.Capacity, .sl (List.map GReservation.enc a_a.Reservations), .sl (List.map GUsage.enc a_a.Usages)]), (3, .box [I a_b.Capacity, .sl (List.map GReservation.enc a_b.Reservations), .sl (List.map GUsage.enc a_b.Usages)])]⟩ [(!((a_a.Capacity : Int) != a_b.Capacity)) = true → (!((a_a.Capacity : Int) != a_b.Capacity)) = true, (!((a_a.Capacity : Int) != a_b.Capacity)) = true → (!((a_a.Capacity : Int) != a_b.Capacity)) = true, (!((a_a.Capacity : Int) != a_b.Capacity)) = true → ([.one (.sl (List.map GReservation.enc a_a.Reservations)), .one (.sl (List.map GReservation.enc a_b.Reservations))] : List AV) = [.one (.sl (List.map GReservation.enc a_a.Reservations)), .one (.sl (List.map GReservation.enc a_b.Reservations))], (!((a_a.Capacity : Int) != a_b.Capacity)) = true → MeetsAt Try.prog 74 [.one (.sl (List.map GReservation.enc a_a.Reservations)), .one (.sl (List.map GReservation.enc a_b.Reservations))] [.one (b1 (s_EqualReservations a_a.Reservations a_b.Reservations))] (none), (!((a_a.Capacity : Int) != a_b.Capacity)) = true → (!((a_a.Capacity : Int) != a_b.Capacity)) = true, (!((a_a.Capacity : Int) != a_b.Capacity)) = true → (!((a_a.Capacity : Int) != a_b.Capacity)) = true, (!((a_a.Capacity : Int) != a_b.Capacity)) = true → (!((a_a.Capacity : Int) != a_b.Capacity)) = true, ((a_a.Capacity : Int) != a_b.Capacity) = false → (!((a_a.Capacity : Int) != a_b.Capacity)) = true, (!(cond ((a_a.Capacity : Int) != a_b.Capacity) true (!(s_EqualReservations a_a.Reservations a_b.Reservations)))) = true → (!(cond ((a_a.Capacity : Int) != a_b.Capacity) true (!(s_EqualReservations a_a.Reservations a_b.Reservations)))) = true, (!(cond ((a_a.Capacity : Int) != a_b.Capacity) true (!(s_EqualReservations a_a.Reservations a_b.Reservations)))) = true → (!(cond ((a_a.Capacity : Int) != a_b.Capacity) true (!(s_EqualReservations a_a.Reservations a_b.Reservations)))) = true, (!(cond ((a_a.Capacity : Int) != a_b.Capacity) true (!(s_EqualReservations a_a.Reservations a_b.Reservations)))) = true → (!(cond ((a_a.Capacity : Int) != a_b.Capacity) true (!(s_EqualReservations a_a.Reservations a_b.Reservations)))) = true, (!(cond ((a_a.Capacity : Int) != a_b.Capacity) true (!(s_EqualReservations a_a.Reservations a_b.Reservations)))) = true → (!(cond ((a_a.Capacity : Int) != a_b.Capacity) true (!(s_EqualReservations a_a.Reservations a_b.Reservations)))) = true, (!(cond ((a_a.Capacity : Int) != a_b.Capacity) true (!(s_EqualReservations a_a.Reservations a_b.Reservations)))) = true → (!(cond ((a_a.Capacity : Int) != a_b.Capacity) true (!(s_EqualReservations a_a.Reservations a_b.Reservations)))) = true, (!(cond ((a_a.Capacity : Int) != a_b.Capacity) true (!(s_EqualReservations a_a.Reservations a_b.Reservations)))) = true → (!(cond ((a_a.Capacity : Int) != a_b.Capacity) true (!(s_EqualReservations a_a.Reservations a_b.Reservations)))) = true, (cond ((a_a.Capacity : Int) != a_b.Capacity) true (!(s_EqualReservations a_a.Reservations a_b.Reservations))) = false → (!(cond ((a_a.Capacity : Int) != a_b.Capacity) true (!(s_EqualReservations a_a.Reservations a_b.Reservations)))) = true] (by kernel_rfl) ⟨(fun hg => (by first | assumption | simp_all)), (fun hg => (by first | assumption | simp_all)), (fun _ => rfl), (fun hg => (s_EqualReservations_ok a_a.Reservations a_b.Reservations)), (fun hg => (by first | assumption | simp_all)), (fun hg => (by first | assumption | simp_all)), (fun hg => (by first | assumption | simp_all)), (by first | exact id | (intro h; rw [h]; rfl) | (intros; simp_all)), (fun hg => (by first | assumption | simp_all)), (fun hg => (by first | assumption | simp_all)), (fun hg => (by first | assumption | simp_all)), (fun hg => (by first | assumption | simp_all)), (fun hg => (by first | assumption | simp_all)), (fun hg => (by first | assumption | simp_all)), (by first | exact id | (intro h; rw [h]; rfl) | (intros; simp_all)), trivial⟩ (q_cast ⟨[(2, none, .val (.one (.ptr 2 0))), (3, none, .val (.one (.ptr 3 0))), (27, none, .val (.one (b1 (cond (cond ((a_a.Capacity : Int) != a_b.Capacity) true (!(s_EqualReservations a_a.Reservations a_b.Reservations))) true (((a_a.Usages.length : Int) : Int) != (a_b.Usages.length : Int))))))], [(2, .box [I a_a.Capacity, .sl (List.map GReservation.enc a_a.Reservations), .sl (List.map GUsage.enc a_a.Usages)]), (3, .box [I a_b.Capacity, .sl (List.map GReservation.enc a_b.Reservations), .sl (List.map GUsage.enc a_b.Usages)])]⟩ (by simp only [Int.toNat_natCast, List.length_map, List.nil_append, List.map_append, List.map_cons, List.map_nil, List.map_take, List.map_drop, List.map_replicate, encI, encS, encU]) ?_)
  refine andThen_normal ?_
  refine aw_cond (cond (cond ((a_a.Capacity : Int) != a_b.Capacity) true (!(s_EqualReservations a_a.Reservations a_b.Reservations))) true (((a_a.Usages.length : Int) : Int) != (a_b.Usages.length : Int))) (by kernel_rfl) (fun h1 => ?_) (fun h1 => ?_)
  · rw [h1, cond_true] at hs
    refine aw_seq ?_
    refine aw_reg [] [4] [] [] ⟨[(4, none, .val (.one (b1 false)))], []⟩ [] (by kernel_rfl) trivial (?_)
    refine andThen_normal ?_
    exact aw_ret (ret_thru (ends_data (ys := [.one (b1 false)]) (.inl rfl) (by kernel_rfl) (by kernel_rfl) hs))
  · rw [h1, cond_false] at hs
    refine aw_pick [2, 3] [2, 3] ⟨[(2, none, .val (.one (.ptr 2 0))), (3, none, .val (.one (.ptr 3 0)))], [(2, .box [I a_a.Capacity, .sl (List.map GReservation.enc a_a.Reservations), .sl (List.map GUsage.enc a_a.Usages)]), (3, .box [I a_b.Capacity, .sl (List.map GReservation.enc a_b.Reservations), .sl (List.map GUsage.enc a_b.Usages)])]⟩ (by kernel_rfl) ?_
    refine aw_skip ?_
    refine andThen_normal ?_
    refine aw_seq ?_
    refine aw_seq ?_
    refine aw_reg [] [2, 3, 5] [2, 3] [] ⟨[(2, none, .val (.one (.ptr 2 0))), (3, none, .val (.one (.ptr 3 0))), (5, none, .val (.one (I 0)))], [(2, .box [I a_a.Capacity, .sl (List.map GReservation.enc a_a.Reservations), .sl (List.map GUsage.enc a_a.Usages)]), (3, .box [I a_b.Capacity, .sl (List.map GReservation.enc a_b.Reservations), .sl (List.map GUsage.enc a_b.Usages)])]⟩ [] (by kernel_rfl) trivial (?_)
    refine andThen_normal ?_
    refine aw_block ?_
    refine aw_lenBox 2 2 _ (List.map GUsage.enc a_a.Usages) rfl rfl (fun hl1 => ?_)
    rw [List.length_map] at hl1
    generalize hz1 : s_EqualSchedulers_l1 a_b a_a.Usages 0 = z1 at hs
    refine aw_loop (fun m st => ∃ (k3 : Nat), m = a_a.Usages.length - k3 ∧ k3 ≤ a_a.Usages.length ∧ s_EqualSchedulers_l1 a_b (a_a.Usages.drop k3) k3 = z1 ∧ st = ⟨[(2, none, .val (.one (.ptr 2 0))), (3, none, .val (.one (.ptr 3 0))), (5, none, .val (.one (I (k3 : Int))))], [(2, .box [I a_a.Capacity, .sl (List.map GReservation.enc a_a.Reservations), .sl (List.map GUsage.enc a_a.Usages)]), (3, .box [I a_b.Capacity, .sl (List.map GReservation.enc a_b.Reservations), .sl (List.map GUsage.enc a_b.Usages)])]⟩) (a_a.Usages.length) ⟨0, rfl, Nat.zero_le _, hz1, by kernel_rfl⟩ ?_
    clear hz1
    rintro m s ⟨k3, rfl, hk1, hz1, rfl⟩
    rcases drop_cases a_a.Usages k3 hk1 with ⟨hd1, rfl⟩ | ⟨x4, hd1, hx1, hlt1⟩
    · rw [hd1, s_EqualSchedulers_l1] at hz1
      refine aw_seq ?_
      refine aw_seq ?_
      refine aw_reg [] [2, 3, 5, 32] [2, 3] [] ⟨[(2, none, .val (.one (.ptr 2 0))), (3, none, .val (.one (.ptr 3 0))), (5, none, .val (.one (I (a_a.Usages.length : Int)))), (32, none, .val (.one (b1 (decide (((a_a.Usages.length : Int) : Int) < ((List.map GUsage.enc a_a.Usages).length : Int))))))], [(2, .box [I a_a.Capacity, .sl (List.map GReservation.enc a_a.Reservations), .sl (List.map GUsage.enc a_a.Usages)]), (3, .box [I a_b.Capacity, .sl (List.map GReservation.enc a_b.Reservations), .sl (List.map GUsage.enc a_b.Usages)])]⟩ [] (by kernel_rfl) trivial (q_cast ⟨[(2, none, .val (.one (.ptr 2 0))), (3, none, .val (.one (.ptr 3 0))), (5, none, .val (.one (I (a_a.Usages.length : Int)))), (32, none, .val (.one (b1 (decide (((a_a.Usages.length : Int) : Int) < (a_a.Usages.length : Int))))))], [(2, .box [I a_a.Capacity, .sl (List.map GReservation.enc a_a.Reservations), .sl (List.map GUsage.enc a_a.Usages)]), (3, .box [I a_b.Capacity, .sl (List.map GReservation.enc a_b.Reservations), .sl (List.map GUsage.enc a_b.Usages)])]⟩ (by simp only [Int.toNat_natCast, List.length_map, List.nil_append, List.map_append, List.map_cons, List.map_nil, List.map_take, List.map_drop, List.map_replicate, encI, encS, encU]) ?_)
      refine andThen_normal ?_
      refine aw_cond (decide (((a_a.Usages.length : Int) : Int) < (a_a.Usages.length : Int))) (by kernel_rfl) (fun h => absurd h (by simp)) (fun _ => ?_)
      refine aw_pick [] [] ⟨[], []⟩ (by kernel_rfl) ?_
      refine aw_exit (exit_thru (exit_thru (exit_here 0 (?_))))
      rw [← hz1, Sum.elim_inr] at hs
      refine andThen_normal ?_
      refine aw_seq ?_
      refine aw_reg [] [4] [] [] ⟨[(4, none, .val (.one (b1 true)))], []⟩ [] (by kernel_rfl) trivial (?_)
      refine andThen_normal ?_
      exact aw_ret (ends_data (ys := [.one (b1 true)]) (.inl rfl) (by kernel_rfl) (by kernel_rfl) hs)
    · rw [hd1, s_EqualSchedulers_l1] at hz1
      refine aw_seq ?_
      refine aw_seq ?_
      refine aw_reg [] [2, 3, 5, 32] [2, 3] [] ⟨[(2, none, .val (.one (.ptr 2 0))), (3, none, .val (.one (.ptr 3 0))), (5, none, .val (.one (I (k3 : Int)))), (32, none, .val (.one (b1 (decide (((k3 : Int) : Int) < ((List.map GUsage.enc a_a.Usages).length : Int))))))], [(2, .box [I a_a.Capacity, .sl (List.map GReservation.enc a_a.Reservations), .sl (List.map GUsage.enc a_a.Usages)]), (3, .box [I a_b.Capacity, .sl (List.map GReservation.enc a_b.Reservations), .sl (List.map GUsage.enc a_b.Usages)])]⟩ [] (by kernel_rfl) trivial (q_cast ⟨[(2, none, .val (.one (.ptr 2 0))), (3, none, .val (.one (.ptr 3 0))), (5, none, .val (.one (I (k3 : Int)))), (32, none, .val (.one (b1 (decide (((k3 : Int) : Int) < (a_a.Usages.length : Int))))))], [(2, .box [I a_a.Capacity, .sl (List.map GReservation.enc a_a.Reservations), .sl (List.map GUsage.enc a_a.Usages)]), (3, .box [I a_b.Capacity, .sl (List.map GReservation.enc a_b.Reservations), .sl (List.map GUsage.enc a_b.Usages)])]⟩ (by simp only [Int.toNat_natCast, List.length_map, List.nil_append, List.map_append, List.map_cons, List.map_nil, List.map_take, List.map_drop, List.map_replicate, encI, encS, encU]) ?_)
      refine andThen_normal ?_
      refine aw_cond (decide (((k3 : Int) : Int) < (a_a.Usages.length : Int))) (by kernel_rfl) (fun _ => ?_) (fun h => absurd h (by simp; omega))
      refine aw_pick [2, 3, 5] [2, 3] ⟨[(2, none, .val (.one (.ptr 2 0))), (3, none, .val (.one (.ptr 3 0))), (5, none, .val (.one (I (k3 : Int))))], [(2, .box [I a_a.Capacity, .sl (List.map GReservation.enc a_a.Reservations), .sl (List.map GUsage.enc a_a.Usages)]), (3, .box [I a_b.Capacity, .sl (List.map GReservation.enc a_b.Reservations), .sl (List.map GUsage.enc a_b.Usages)])]⟩ (by kernel_rfl) ?_
      refine aw_skip ?_
      refine andThen_normal ?_
      refine aw_seq ?_
      refine aw_block ?_
      refine aw_seq ?_
      refine aw_drw [(38, .elem (GUsage.enc x4)), (43, .elem (GUsage.enc (a_b.Usages.getD k3 GUsage.zero)))] [0, 1, 2, 3, 4, 5, 6, 7, 8, 9, 10] [2, 3, 5, 45] [2, 3] [] ⟨[(2, none, .val (.one (.ptr 2 0))), (3, none, .val (.one (.ptr 3 0))), (5, none, .val (.one (I (k3 : Int)))), (45, none, .val (.one (b1 (!(((x4.ID : Int) == ((a_b.Usages.getD k3 GUsage.zero).ID)) && (((x4.AS : Int) == ((a_b.Usages.getD k3 GUsage.zero).AS)) && (((x4.Interface : Int) == ((a_b.Usages.getD k3 GUsage.zero).Interface)) && (((x4.Count : Int) == ((a_b.Usages.getD k3 GUsage.zero).Count)) && true))))))))], [(2, .box [I a_a.Capacity, .sl (List.map GReservation.enc a_a.Reservations), .sl (List.map GUsage.enc a_a.Usages)]), (3, .box [I a_b.Capacity, .sl (List.map GReservation.enc a_b.Reservations), .sl (List.map GUsage.enc a_b.Usages)])]⟩ [(0 : Int) ≤ (k3 : Int), (List.map GUsage.enc a_a.Usages)[((k3 : Int) : Int).toNat]? = some (GUsage.enc x4), (0 : Int) ≤ (k3 : Int), (List.map GUsage.enc a_b.Usages)[((k3 : Int) : Int).toNat]? = some (GUsage.enc (a_b.Usages.getD k3 GUsage.zero)), Try.prog.stoodInHeld 97 = false, Try.prog.eqGuardType Try.prog.depth 97 = false] (by kernel_rfl) (by kernel_rfl) (Nat.le_of_ble_eq_true rfl) (by kernel_rfl) ⟨(by first | omega | (simp only [List.length_map, List.length_append, List.length_cons, List.length_nil, List.length_replicate, List.length_set, decide_eq_true_eq, Bool.and_eq_true, Bool.not_eq_true', decide_eq_false_iff_not, Bool.cond_false_right, Bool.not_eq_false', Bool.cond_true_left, Bool.or_eq_false_iff, Bool.or_eq_true, bne_eq_false_iff_eq, bne_iff_ne, beq_iff_eq, beq_eq_false_iff_ne, ne_eq, Int.not_lt, Int.not_le, ge_iff_le, gt_iff_lt, maxLen] at *; omega)), (el_map hx1), (by first | omega | (simp only [List.length_map, List.length_append, List.length_cons, List.length_nil, List.length_replicate, List.length_set, decide_eq_true_eq, Bool.and_eq_true, Bool.not_eq_true', decide_eq_false_iff_not, Bool.cond_false_right, Bool.not_eq_false', Bool.cond_true_left, Bool.or_eq_false_iff, Bool.or_eq_true, bne_eq_false_iff_eq, bne_iff_ne, beq_iff_eq, beq_eq_false_iff_ne, ne_eq, Int.not_lt, Int.not_le, ge_iff_le, gt_iff_lt, maxLen] at *; omega)), (el_getD (n := (k3 : Int)) (by first | omega | (simp only [List.length_map, List.length_append, List.length_cons, List.length_nil, List.length_replicate, List.length_set, decide_eq_true_eq, Bool.and_eq_true, Bool.not_eq_true', decide_eq_false_iff_not, Bool.cond_false_right, Bool.not_eq_false', Bool.cond_true_left, Bool.or_eq_false_iff, Bool.or_eq_true, bne_eq_false_iff_eq, bne_iff_ne, beq_iff_eq, beq_eq_false_iff_ne, ne_eq, Int.not_lt, Int.not_le, ge_iff_le, gt_iff_lt, maxLen] at *; omega)) (by first | omega | (simp only [List.length_map, List.length_append, List.length_cons, List.length_nil, List.length_replicate, List.length_set, decide_eq_true_eq, Bool.and_eq_true, Bool.not_eq_true', decide_eq_false_iff_not, Bool.cond_false_right, Bool.not_eq_false', Bool.cond_true_left, Bool.or_eq_false_iff, Bool.or_eq_true, bne_eq_false_iff_eq, bne_iff_ne, beq_iff_eq, beq_eq_false_iff_ne, ne_eq, Int.not_lt, Int.not_le, ge_iff_le, gt_iff_lt, maxLen] at *; omega))), (by kernel_rfl), (by kernel_rfl), trivial⟩ (?_)
      refine andThen_normal ?_
      refine aw_cond (!(((x4.ID : Int) == ((a_b.Usages.getD k3 GUsage.zero).ID)) && (((x4.AS : Int) == ((a_b.Usages.getD k3 GUsage.zero).AS)) && (((x4.Interface : Int) == ((a_b.Usages.getD k3 GUsage.zero).Interface)) && (((x4.Count : Int) == ((a_b.Usages.getD k3 GUsage.zero).Count)) && true))))) (by kernel_rfl) (fun h5 => ?_) (fun h5 => ?_)
      · rw [h5, cond_true] at hz1
        refine aw_seq ?_
        refine aw_reg [] [4] [] [] ⟨[(4, none, .val (.one (b1 false)))], []⟩ [] (by kernel_rfl) trivial (?_)
        refine andThen_normal ?_
        rw [← hz1, Sum.elim_inl] at hs
        exact aw_ret (ret_blk (ret_thru (ret_thru (ret_blk (ret_thru (ends_data (ys := [.one (b1 false)]) (.inl rfl) (by kernel_rfl) (by kernel_rfl) hs))))))
      · rw [h5, cond_false] at hz1
        refine aw_pick [2, 3, 5] [2, 3] ⟨[(2, none, .val (.one (.ptr 2 0))), (3, none, .val (.one (.ptr 3 0))), (5, none, .val (.one (I (k3 : Int))))], [(2, .box [I a_a.Capacity, .sl (List.map GReservation.enc a_a.Reservations), .sl (List.map GUsage.enc a_a.Usages)]), (3, .box [I a_b.Capacity, .sl (List.map GReservation.enc a_b.Reservations), .sl (List.map GUsage.enc a_b.Usages)])]⟩ (by kernel_rfl) ?_
        refine aw_skip ?_
        refine blk_normal ?_
        refine andThen_normal ?_
        refine aw_reg [] [2, 3, 5] [2, 3] [] ⟨[(2, none, .val (.one (.ptr 2 0))), (3, none, .val (.one (.ptr 3 0))), (5, none, .val (.one (I (wr ((k3 : Int) + 1)))))], [(2, .box [I a_a.Capacity, .sl (List.map GReservation.enc a_a.Reservations), .sl (List.map GUsage.enc a_a.Usages)]), (3, .box [I a_b.Capacity, .sl (List.map GReservation.enc a_b.Reservations), .sl (List.map GUsage.enc a_b.Usages)])]⟩ [] (by kernel_rfl) trivial (?_)
        exact ⟨a_a.Usages.length - (k3 + 1), by omega, k3 + 1, rfl, by omega, hz1, by rw [show wr ((k3 : Int) + 1) = ((k3 + 1 : Nat) : Int) from wrap_succ (by omega)]⟩

theorem i_EqualSchedulers_ok (a_a : GScheduler) (a_b : GScheduler) : MeetsAt Try.prog 41 [.agg (GScheduler.enc a_a), .agg (GScheduler.enc a_b)] [.one (b1 (i_EqualSchedulers a_a a_b))] none := by
  generalize hs : ([.one (b1 (i_EqualSchedulers a_a a_b))] : List AV) = outs
  unfold i_EqualSchedulers at hs
  refine meets_data Try.func41 rfl (by kernel_rfl) (Nat.le_of_ble_eq_true rfl) ?_
  rintro ⟨P, m, w0, B, src, hsrc⟩ rfl rfl
  refine aw_seq ?_
  refine aw_reg [] [2, 3] [2, 3] [] ⟨[(2, none, .val (.one (.ptr 2 0))), (3, none, .val (.one (.ptr 3 0)))], [(2, .box [I a_a.Capacity, .sl (List.map GReservation.enc a_a.Reservations), .sl (List.map GUsage.enc a_a.Usages)]), (3, .box [I a_b.Capacity, .sl (List.map GReservation.enc a_b.Reservations), .sl (List.map GUsage.enc a_b.Usages)])]⟩ [] (by kernel_rfl) trivial (?_)
  refine andThen_normal ?_
  refine aw_seq ?_
  refine aw_seq ?_
  refine aw_reg [(16, .call [.one (.sl (List.map GReservation.enc a_a.Reservations)), .one (.sl (List.map GReservation.enc a_b.Reservations))] [.one (b1 (i_EqualReservations a_a.Reservations a_b.Reservations))] (none))] [2, 3, 27] [2, 3] [] ⟨[(2, none, .val (.one (.ptr 2 0))), (3, none, .val (.one (.ptr 3 0))), (27, none, .val (.one (b1 (cond (cond ((a_a.Capacity : Int) != a_b.Capacity) true (!(i_EqualReservations a_a.Reservations a_b.Reservations))) true ((((List.map GUsage.enc a_a.Usages).length : Int) : Int) != ((List.map GUsage.enc a_b.Usages).length : Int))))))], [(2, .box [I a_a.Capacity, .sl (List.map GReservation.enc a_a.Reservations), .sl (List.map GUsage.enc a_a.Usages)]), (3, .box [I a_b.Capacity, .sl (List.map GReservation.enc a_b.Reservations), .sl (List.map GUsage.enc a_b.Usages)])]⟩ [(!((a_a.Capacity : Int) != a_b.Capacity)) = true → (!((a_a.Capacity : Int) != a_b.Capacity)) = true, (!((a_a.Capacity : Int) != a_b.Capacity)) = true → (!((a_a.Capacity : Int) != a_b.Capacity)) = true, (!((a_a.Capacity : Int) != a_b.Capacity)) = true → ([.one (.sl (List.map GReservation.enc a_a.Reservations)), .one (.sl (List.map GReservation.enc a_b.Reservations))] : List AV) = [.one (.sl (List.map GReservation.enc a_a.Reservations)), .one (.sl (List.map GReservation.enc a_b.Reservations))], (!((a_a.Capacity : Int) != a_b.Capacity)) = true → MeetsAt Try.prog 77 [.one (.sl (List.map GReservation.enc a_a.Reservations)), .one (.sl (List.map GReservation.enc a_b.Reservations))] [.one (b1 (i_EqualReservations a_a.Reservations a_b.Reservations))] (none), (!((a_a.Capacity : Int) != a_b.Capacity)) = true → (!((a_a.Capacity : Int) != a_b.Capacity)) = true, (!((a_a.Capacity : Int) != a_b.Capacity)) = true → (!((a_a.Capacity : Int) != a_b.Capacity)) = true, (!((a_a.Capacity : Int) != a_b.Capacity)) = true → (!((a_a.Capacity : Int) != a_b.Capacity)) = true, ((a_a.Capacity : Int) != a_b.Capacity) = false → (!((a_a.Capacity : Int) != a_b.Capacity)) = true, (!(cond ((a_a.Capacity : Int) != a_b.Capacity) true (!(i_EqualReservations a_a.Reservations a_b.Reservations)))) = true → (!(cond ((a_a.Capacity : Int) != a_b.Capacity) true (!(i_EqualReservations a_a.Reservations a_b.Reservations)))) = true, (!(cond ((a_a.Capacity : Int) != a_b.Capacity) true (!(i_EqualReservations a_a.Reservations a_b.Reservations)))) = true → (!(cond ((a_a.Capacity : Int) != a_b.Capacity) true (!(i_EqualReservations a_a.Reservations a_b.Reservations)))) = true, (!(cond ((a_a.Capacity : Int) != a_b.Capacity) true (!(i_EqualReservations a_a.Reservations a_b.Reservations)))) = true → (!(cond ((a_a.Capacity : Int) != a_b.Capacity) true (!(i_EqualReservations a_a.Reservations a_b.Reservations)))) = true, (!(cond ((a_a.Capacity : Int) != a_b.Capacity) true (!(i_EqualReservations a_a.Reservations a_b.Reservations)))) = true → (!(cond ((a_a.Capacity : Int) != a_b.Capacity) true (!(i_EqualReservations a_a.Reservations a_b.Reservations)))) = true, (!(cond ((a_a.Capacity : Int) != a_b.Capacity) true (!(i_EqualReservations a_a.Reservations a_b.Reservations)))) = true → (!(cond ((a_a.Capacity : Int) != a_b.Capacity) true (!(i_EqualReservations a_a.Reservations a_b.Reservations)))) = true, (!(cond ((a_a.Capacity : Int) != a_b.Capacity) true (!(i_EqualReservations a_a.Reservations a_b.Reservations)))) = true → (!(cond ((a_a.Capacity : Int) != a_b.Capacity) true (!(i_EqualReservations a_a.Reservations a_b.Reservations)))) = true, (cond ((a_a.Capacity : Int) != a_b.Capacity) true (!(i_EqualReservations a_a.Reservations a_b.Reservations))) = false → (!(cond ((a_a.Capacity : Int) != a_b.Capacity) true (!(i_EqualReservations a_a.Reservations a_b.Reservations)))) = true] (by kernel_rfl) ⟨(fun hg => (by first | assumption | simp_all)), (fun hg => (by first | assumption | simp_all)), (fun _ => rfl), (fun hg => (i_EqualReservations_ok a_a.Reservations a_b.Reservations)), (fun hg => (by first | assumption | simp_all)), (fun hg => (by first | assumption | simp_all)), (fun hg => (by first | assumption | simp_all)), (by first | exact id | (intro h; rw [h]; rfl) | (intros; simp_all)), (fun hg => (by first | assumption | simp_all)), (fun hg => (by first | assumption | simp_all)), (fun hg => (by first | assumption | simp_all)), (fun hg => (by first | assumption | simp_all)), (fun hg => (by first | assumption | simp_all)), (fun hg => (by first | assumption | simp_all)), (by first | exact id | (intro h; rw [h]; rfl) | (intros; simp_all)), trivial⟩ (q_cast ⟨[(2, none, .val (.one (.ptr 2 0))), (3, none, .val (.one (.ptr 3 0))), (27, none, .val (.one (b1 (cond (cond ((a_a.Capacity : Int) != a_b.Capacity) true (!(i_EqualReservations a_a.Reservations a_b.Reservations))) true (((a_a.Usages.length : Int) : Int) != (a_b.Usages.length : Int))))))], [(2, .box [I a_a.Capacity, .sl (List.map GReservation.enc a_a.Reservations), .sl (List.map GUsage.enc a_a.Usages)]), (3, .box [I a_b.Capacity, .sl (List.map GReservation.enc a_b.Reservations), .sl (List.map GUsage.enc a_b.Usages)])]⟩ (by simp only [Int.toNat_natCast, List.length_map, List.nil_append, List.map_append, List.map_cons, List.map_nil, List.map_take, List.map_drop, List.map_replicate, encI, encS, encU]) ?_)
  refine andThen_normal ?_
  refine aw_cond (cond (cond ((a_a.Capacity : Int) != a_b.Capacity) true (!(i_EqualReservations a_a.Reservations a_b.Reservations))) true (((a_a.Usages.length : Int) : Int) != (a_b.Usages.length : Int))) (by kernel_rfl) (fun h1 => ?_) (fun h1 => ?_)
  · rw [h1, cond_true] at hs
    refine aw_seq ?_
    refine aw_reg [] [4] [] [] ⟨[(4, none, .val (.one (b1 false)))], []⟩ [] (by kernel_rfl) trivial (?_)
    refine andThen_normal ?_
    exact aw_ret (ret_thru (ends_data (ys := [.one (b1 false)]) (.inl rfl) (by kernel_rfl) (by kernel_rfl) hs))
  · rw [h1, cond_false] at hs
    refine aw_pick [2, 3] [2, 3] ⟨[(2, none, .val (.one (.ptr 2 0))), (3, none, .val (.one (.ptr 3 0)))], [(2, .box [I a_a.Capacity, .sl (List.map GReservation.enc a_a.Reservations), .sl (List.map GUsage.enc a_a.Usages)]), (3, .box [I a_b.Capacity, .sl (List.map GReservation.enc a_b.Reservations), .sl (List.map GUsage.enc a_b.Usages)])]⟩ (by kernel_rfl) ?_
    refine aw_skip ?_
    refine andThen_normal ?_
    refine aw_seq ?_
    refine aw_seq ?_
    refine aw_reg [] [2, 3, 30, 31] [2, 3] [] ⟨[(2, none, .val (.one (.ptr 2 0))), (3, none, .val (.one (.ptr 3 0))), (30, none, .val (.one (I ((List.map GUsage.enc a_a.Usages).length : Int)))), (31, none, .val (.one (I 0)))], [(2, .box [I a_a.Capacity, .sl (List.map GReservation.enc a_a.Reservations), .sl (List.map GUsage.enc a_a.Usages)]), (3, .box [I a_b.Capacity, .sl (List.map GReservation.enc a_b.Reservations), .sl (List.map GUsage.enc a_b.Usages)])]⟩ [] (by kernel_rfl) trivial (q_cast ⟨[(2, none, .val (.one (.ptr 2 0))), (3, none, .val (.one (.ptr 3 0))), (30, none, .val (.one (I (a_a.Usages.length : Int)))), (31, none, .val (.one (I 0)))], [(2, .box [I a_a.Capacity, .sl (List.map GReservation.enc a_a.Reservations), .sl (List.map GUsage.enc a_a.Usages)]), (3, .box [I a_b.Capacity, .sl (List.map GReservation.enc a_b.Reservations), .sl (List.map GUsage.enc a_b.Usages)])]⟩ (by simp only [Int.toNat_natCast, List.length_map, List.nil_append, List.map_append, List.map_cons, List.map_nil, List.map_take, List.map_drop, List.map_replicate, encI, encS, encU]) ?_)
    refine andThen_normal ?_
    refine aw_block ?_
    refine aw_lenBox 2 2 _ (List.map GUsage.enc a_a.Usages) rfl rfl (fun hl1 => ?_)
    rw [List.length_map] at hl1
    generalize hz1 : i_EqualSchedulers_l1 a_b a_a.Usages 0 = z1 at hs
    refine aw_loop (fun m st => ∃ (k3 : Nat), m = a_a.Usages.length - k3 ∧ k3 ≤ a_a.Usages.length ∧ i_EqualSchedulers_l1 a_b (a_a.Usages.drop k3) k3 = z1 ∧ st = ⟨[(2, none, .val (.one (.ptr 2 0))), (3, none, .val (.one (.ptr 3 0))), (30, none, .val (.one (I (a_a.Usages.length : Int)))), (31, none, .val (.one (I (k3 : Int))))], [(2, .box [I a_a.Capacity, .sl (List.map GReservation.enc a_a.Reservations), .sl (List.map GUsage.enc a_a.Usages)]), (3, .box [I a_b.Capacity, .sl (List.map GReservation.enc a_b.Reservations), .sl (List.map GUsage.enc a_b.Usages)])]⟩) (a_a.Usages.length) ⟨0, rfl, Nat.zero_le _, hz1, by kernel_rfl⟩ ?_
    clear hz1
    rintro m s ⟨k3, rfl, hk1, hz1, rfl⟩
    rcases drop_cases a_a.Usages k3 hk1 with ⟨hd1, rfl⟩ | ⟨x4, hd1, hx1, hlt1⟩
    · rw [hd1, i_EqualSchedulers_l1] at hz1
      refine aw_seq ?_
      refine aw_reg [] [2, 3, 30, 31, 32] [2, 3] [] ⟨[(2, none, .val (.one (.ptr 2 0))), (3, none, .val (.one (.ptr 3 0))), (30, none, .val (.one (I (a_a.Usages.length : Int)))), (31, none, .val (.one (I (a_a.Usages.length : Int)))), (32, none, .val (.one (b1 (decide (((a_a.Usages.length : Int) : Int) < (a_a.Usages.length : Int))))))], [(2, .box [I a_a.Capacity, .sl (List.map GReservation.enc a_a.Reservations), .sl (List.map GUsage.enc a_a.Usages)]), (3, .box [I a_b.Capacity, .sl (List.map GReservation.enc a_b.Reservations), .sl (List.map GUsage.enc a_b.Usages)])]⟩ [] (by kernel_rfl) trivial (?_)
      refine andThen_normal ?_
      refine aw_seq ?_
      refine aw_cond (decide (((a_a.Usages.length : Int) : Int) < (a_a.Usages.length : Int))) (by kernel_rfl) (fun h => absurd h (by simp)) (fun _ => ?_)
      refine aw_pick [] [] ⟨[], []⟩ (by kernel_rfl) ?_
      refine aw_exit (exit_thru (exit_thru (exit_here 0 (?_))))
      rw [← hz1, Sum.elim_inr] at hs
      refine andThen_normal ?_
      refine aw_seq ?_
      refine aw_reg [] [4] [] [] ⟨[(4, none, .val (.one (b1 true)))], []⟩ [] (by kernel_rfl) trivial (?_)
      refine andThen_normal ?_
      exact aw_ret (ends_data (ys := [.one (b1 true)]) (.inl rfl) (by kernel_rfl) (by kernel_rfl) hs)
    · rw [hd1, i_EqualSchedulers_l1] at hz1
      refine aw_seq ?_
      refine aw_reg [] [2, 3, 30, 31, 32] [2, 3] [] ⟨[(2, none, .val (.one (.ptr 2 0))), (3, none, .val (.one (.ptr 3 0))), (30, none, .val (.one (I (a_a.Usages.length : Int)))), (31, none, .val (.one (I (k3 : Int)))), (32, none, .val (.one (b1 (decide (((k3 : Int) : Int) < (a_a.Usages.length : Int))))))], [(2, .box [I a_a.Capacity, .sl (List.map GReservation.enc a_a.Reservations), .sl (List.map GUsage.enc a_a.Usages)]), (3, .box [I a_b.Capacity, .sl (List.map GReservation.enc a_b.Reservations), .sl (List.map GUsage.enc a_b.Usages)])]⟩ [] (by kernel_rfl) trivial (?_)
      refine andThen_normal ?_
      refine aw_seq ?_
      refine aw_cond (decide (((k3 : Int) : Int) < (a_a.Usages.length : Int))) (by kernel_rfl) (fun _ => ?_) (fun h => absurd h (by simp; omega))
      refine aw_pick [2, 3, 30, 31] [2, 3] ⟨[(2, none, .val (.one (.ptr 2 0))), (3, none, .val (.one (.ptr 3 0))), (30, none, .val (.one (I (a_a.Usages.length : Int)))), (31, none, .val (.one (I (k3 : Int))))], [(2, .box [I a_a.Capacity, .sl (List.map GReservation.enc a_a.Reservations), .sl (List.map GUsage.enc a_a.Usages)]), (3, .box [I a_b.Capacity, .sl (List.map GReservation.enc a_b.Reservations), .sl (List.map GUsage.enc a_b.Usages)])]⟩ (by kernel_rfl) ?_
      refine aw_skip ?_
      refine andThen_normal ?_
      refine aw_seq ?_
      refine aw_block ?_
      refine aw_seq ?_
      refine aw_reg [] [2, 3, 5, 30, 31] [2, 3] [] ⟨[(2, none, .val (.one (.ptr 2 0))), (3, none, .val (.one (.ptr 3 0))), (5, none, .val (.one (I (k3 : Int)))), (30, none, .val (.one (I (a_a.Usages.length : Int)))), (31, none, .val (.one (I (k3 : Int))))], [(2, .box [I a_a.Capacity, .sl (List.map GReservation.enc a_a.Reservations), .sl (List.map GUsage.enc a_a.Usages)]), (3, .box [I a_b.Capacity, .sl (List.map GReservation.enc a_b.Reservations), .sl (List.map GUsage.enc a_b.Usages)])]⟩ [] (by kernel_rfl) trivial (?_)
      refine andThen_normal ?_
      refine aw_seq ?_
      refine aw_drw [(37, .elem (GUsage.enc x4)), (42, .elem (GUsage.enc (a_b.Usages.getD k3 GUsage.zero)))] [0, 1, 2, 3, 4, 5, 6, 7, 8, 9, 10] [2, 3, 30, 31, 44] [2, 3] [] ⟨[(2, none, .val (.one (.ptr 2 0))), (3, none, .val (.one (.ptr 3 0))), (30, none, .val (.one (I (a_a.Usages.length : Int)))), (31, none, .val (.one (I (k3 : Int)))), (44, none, .val (.one (b1 (!(((x4.ID : Int) == ((a_b.Usages.getD k3 GUsage.zero).ID)) && (((x4.AS : Int) == ((a_b.Usages.getD k3 GUsage.zero).AS)) && (((x4.Interface : Int) == ((a_b.Usages.getD k3 GUsage.zero).Interface)) && (((x4.Count : Int) == ((a_b.Usages.getD k3 GUsage.zero).Count)) && true))))))))], [(2, .box [I a_a.Capacity, .sl (List.map GReservation.enc a_a.Reservations), .sl (List.map GUsage.enc a_a.Usages)]), (3, .box [I a_b.Capacity, .sl (List.map GReservation.enc a_b.Reservations), .sl (List.map GUsage.enc a_b.Usages)])]⟩ [(0 : Int) ≤ (k3 : Int), (List.map GUsage.enc a_a.Usages)[((k3 : Int) : Int).toNat]? = some (GUsage.enc x4), (0 : Int) ≤ (k3 : Int), (List.map GUsage.enc a_b.Usages)[((k3 : Int) : Int).toNat]? = some (GUsage.enc (a_b.Usages.getD k3 GUsage.zero)), Try.prog.stoodInHeld 97 = false, Try.prog.eqGuardType Try.prog.depth 97 = false] (by kernel_rfl) (by kernel_rfl) (Nat.le_of_ble_eq_true rfl) (by kernel_rfl) ⟨(by first | omega | (simp only [List.length_map, List.length_append, List.length_cons, List.length_nil, List.length_replicate, List.length_set, decide_eq_true_eq, Bool.and_eq_true, Bool.not_eq_true', decide_eq_false_iff_not, Bool.cond_false_right, Bool.not_eq_false', Bool.cond_true_left, Bool.or_eq_false_iff, Bool.or_eq_true, bne_eq_false_iff_eq, bne_iff_ne, beq_iff_eq, beq_eq_false_iff_ne, ne_eq, Int.not_lt, Int.not_le, ge_iff_le, gt_iff_lt, maxLen] at *; omega)), (el_map hx1), (by first | omega | (simp only [List.length_map, List.length_append, List.length_cons, List.length_nil, List.length_replicate, List.length_set, decide_eq_true_eq, Bool.and_eq_true, Bool.not_eq_true', decide_eq_false_iff_not, Bool.cond_false_right, Bool.not_eq_false', Bool.cond_true_left, Bool.or_eq_false_iff, Bool.or_eq_true, bne_eq_false_iff_eq, bne_iff_ne, beq_iff_eq, beq_eq_false_iff_ne, ne_eq, Int.not_lt, Int.not_le, ge_iff_le, gt_iff_lt, maxLen] at *; omega)), (el_getD (n := (k3 : Int)) (by first | omega | (simp only [List.length_map, List.length_append, List.length_cons, List.length_nil, List.length_replicate, List.length_set, decide_eq_true_eq, Bool.and_eq_true, Bool.not_eq_true', decide_eq_false_iff_not, Bool.cond_false_right, Bool.not_eq_false', Bool.cond_true_left, Bool.or_eq_false_iff, Bool.or_eq_true, bne_eq_false_iff_eq, bne_iff_ne, beq_iff_eq, beq_eq_false_iff_ne, ne_eq, Int.not_lt, Int.not_le, ge_iff_le, gt_iff_lt, maxLen] at *; omega)) (by first | omega | (simp only [List.length_map, List.length_append, List.length_cons, List.length_nil, List.length_replicate, List.length_set, decide_eq_true_eq, Bool.and_eq_true, Bool.not_eq_true', decide_eq_false_iff_not, Bool.cond_false_right, Bool.not_eq_false', Bool.cond_true_left, Bool.or_eq_false_iff, Bool.or_eq_true, bne_eq_false_iff_eq, bne_iff_ne, beq_iff_eq, beq_eq_false_iff_ne, ne_eq, Int.not_lt, Int.not_le, ge_iff_le, gt_iff_lt, maxLen] at *; omega))), (by kernel_rfl), (by kernel_rfl), trivial⟩ (?_)
      refine andThen_normal ?_
      refine aw_cond (!(((x4.ID : Int) == ((a_b.Usages.getD k3 GUsage.zero).ID)) && (((x4.AS : Int) == ((a_b.Usages.getD k3 GUsage.zero).AS)) && (((x4.Interface : Int) == ((a_b.Usages.getD k3 GUsage.zero).Interface)) && (((x4.Count : Int) == ((a_b.Usages.getD k3 GUsage.zero).Count)) && true))))) (by kernel_rfl) (fun h5 => ?_) (fun h5 => ?_)
      · rw [h5, cond_true] at hz1
        refine aw_seq ?_
        refine aw_reg [] [4] [] [] ⟨[(4, none, .val (.one (b1 false)))], []⟩ [] (by kernel_rfl) trivial (?_)
        refine andThen_normal ?_
        rw [← hz1, Sum.elim_inl] at hs
        exact aw_ret (ret_blk (ret_thru (ret_thru (ret_blk (ret_thru (ends_data (ys := [.one (b1 false)]) (.inl rfl) (by kernel_rfl) (by kernel_rfl) hs))))))
      · rw [h5, cond_false] at hz1
        refine aw_pick [2, 3, 30, 31] [2, 3] ⟨[(2, none, .val (.one (.ptr 2 0))), (3, none, .val (.one (.ptr 3 0))), (30, none, .val (.one (I (a_a.Usages.length : Int)))), (31, none, .val (.one (I (k3 : Int))))], [(2, .box [I a_a.Capacity, .sl (List.map GReservation.enc a_a.Reservations), .sl (List.map GUsage.enc a_a.Usages)]), (3, .box [I a_b.Capacity, .sl (List.map GReservation.enc a_b.Reservations), .sl (List.map GUsage.enc a_b.Usages)])]⟩ (by kernel_rfl) ?_
        refine aw_skip ?_
        refine blk_normal ?_
        refine andThen_normal ?_
        refine aw_reg [] [2, 3, 30, 31] [2, 3] [] ⟨[(2, none, .val (.one (.ptr 2 0))), (3, none, .val (.one (.ptr 3 0))), (30, none, .val (.one (I (a_a.Usages.length : Int)))), (31, none, .val (.one (I (wr ((k3 : Int) + 1)))))], [(2, .box [I a_a.Capacity, .sl (List.map GReservation.enc a_a.Reservations), .sl (List.map GUsage.enc a_a.Usages)]), (3, .box [I a_b.Capacity, .sl (List.map GReservation.enc a_b.Reservations), .sl (List.map GUsage.enc a_b.Usages)])]⟩ [] (by kernel_rfl) trivial (?_)
        exact ⟨a_a.Usages.length - (k3 + 1), by omega, k3 + 1, rfl, by omega, hz1, by rw [show wr ((k3 : Int) + 1) = ((k3 + 1 : Nat) : Int) from wrap_succ (by omega)]⟩

theorem l_eqReservationS_ok (a_a : List GReservation) (a_b : List GReservation) : MeetsAt Try.prog 66 [.one (.sl (List.map GReservation.enc a_a)), .one (.sl (List.map GReservation.enc a_b))] [.one (b1 (l_eqReservationS a_a a_b))] none := by
  generalize hs : ([.one (b1 (l_eqReservationS a_a a_b))] : List AV) = outs
  unfold l_eqReservationS at hs
  refine meets_data Try.func66 rfl (by kernel_rfl) (Nat.le_of_ble_eq_true rfl) ?_
  rintro ⟨P, m, w0, B, src, hsrc⟩ rfl rfl
  refine aw_seq ?_
  refine aw_reg [] [0, 1] [] [] ⟨[(0, none, .val (.one (.sl (List.map GReservation.enc a_a)))), (1, none, .val (.one (.sl (List.map GReservation.enc a_b))))], []⟩ [] (by kernel_rfl) trivial (?_)
  refine andThen_normal ?_
  refine aw_seq ?_
  refine aw_seq ?_
  refine aw_reg [] [0, 1, 10] [] [] ⟨[(0, none, .val (.one (.sl (List.map GReservation.enc a_a)))), (1, none, .val (.one (.sl (List.map GReservation.enc a_b)))), (10, none, .val (.one (b1 ((((List.map GReservation.enc a_a).length : Int) : Int) != ((List.map GReservation.enc a_b).length : Int)))))], []⟩ [] (by kernel_rfl) trivial (q_cast ⟨[(0, none, .val (.one (.sl (List.map GReservation.enc a_a)))), (1, none, .val (.one (.sl (List.map GReservation.enc a_b)))), (10, none, .val (.one (b1 (((a_a.length : Int) : Int) != (a_b.length : Int)))))], []⟩ (by simp only [Int.toNat_natCast, List.length_map, List.nil_append, List.map_append, List.map_cons, List.map_nil, List.map_take, List.map_drop, List.map_replicate, encI, encS, encU]) ?_)
  refine andThen_normal ?_
  refine aw_cond (((a_a.length : Int) : Int) != (a_b.length : Int)) (by kernel_rfl) (fun h1 => ?_) (fun h1 => ?_)
  · rw [h1, cond_true] at hs
    refine aw_seq ?_
    refine aw_reg [] [4] [] [] ⟨[(4, none, .val (.one (b1 false)))], []⟩ [] (by kernel_rfl) trivial (?_)
    refine andThen_normal ?_
    exact aw_ret (ret_thru (ends_data (ys := [.one (b1 false)]) (.inl rfl) (by kernel_rfl) (by kernel_rfl) hs))
  · rw [h1, cond_false] at hs
    refine aw_pick [0, 1] [] ⟨[(0, none, .val (.one (.sl (List.map GReservation.enc a_a)))), (1, none, .val (.one (.sl (List.map GReservation.enc a_b))))], []⟩ (by kernel_rfl) ?_
    refine aw_skip ?_
    refine andThen_normal ?_
    refine aw_seq ?_
    refine aw_seq ?_
    refine aw_reg [] [0, 1, 5] [] [] ⟨[(0, none, .val (.one (.sl (List.map GReservation.enc a_a)))), (1, none, .val (.one (.sl (List.map GReservation.enc a_b)))), (5, none, .val (.one (I 0)))], []⟩ [] (by kernel_rfl) trivial (?_)
    refine andThen_normal ?_
    refine aw_block ?_
    refine aw_len 0 (List.map GReservation.enc a_a) (by kernel_rfl) (fun hl1 => ?_)
    rw [List.length_map] at hl1
    generalize hz1 : l_eqReservationS_l1 a_b a_a 0 = z1 at hs
    refine aw_loop (fun m st => ∃ (k3 : Nat), m = a_a.length - k3 ∧ k3 ≤ a_a.length ∧ l_eqReservationS_l1 a_b (a_a.drop k3) k3 = z1 ∧ st = ⟨[(0, none, .val (.one (.sl (List.map GReservation.enc a_a)))), (1, none, .val (.one (.sl (List.map GReservation.enc a_b)))), (5, none, .val (.one (I (k3 : Int))))], []⟩) (a_a.length) ⟨0, rfl, Nat.zero_le _, hz1, by kernel_rfl⟩ ?_
    clear hz1
    rintro m s ⟨k3, rfl, hk1, hz1, rfl⟩
    rcases drop_cases a_a k3 hk1 with ⟨hd1, rfl⟩ | ⟨x4, hd1, hx1, hlt1⟩
    · rw [hd1, l_eqReservationS_l1] at hz1
      refine aw_seq ?_
      refine aw_seq ?_
      refine aw_reg [] [0, 1, 5, 14] [] [] ⟨[(0, none, .val (.one (.sl (List.map GReservation.enc a_a)))), (1, none, .val (.one (.sl (List.map GReservation.enc a_b)))), (5, none, .val (.one (I (a_a.length : Int)))), (14, none, .val (.one (b1 (decide (((a_a.length : Int) : Int) < ((List.map GReservation.enc a_a).length : Int))))))], []⟩ [] (by kernel_rfl) trivial (q_cast ⟨[(0, none, .val (.one (.sl (List.map GReservation.enc a_a)))), (1, none, .val (.one (.sl (List.map GReservation.enc a_b)))), (5, none, .val (.one (I (a_a.length : Int)))), (14, none, .val (.one (b1 (decide (((a_a.length : Int) : Int) < (a_a.length : Int))))))], []⟩ (by simp only [Int.toNat_natCast, List.length_map, List.nil_append, List.map_append, List.map_cons, List.map_nil, List.map_take, List.map_drop, List.map_replicate, encI, encS, encU]) ?_)
      refine andThen_normal ?_
      refine aw_cond (decide (((a_a.length : Int) : Int) < (a_a.length : Int))) (by kernel_rfl) (fun h => absurd h (by simp)) (fun _ => ?_)
      refine aw_pick [] [] ⟨[], []⟩ (by kernel_rfl) ?_
      refine aw_exit (exit_thru (exit_thru (exit_here 0 (?_))))
      rw [← hz1, Sum.elim_inr] at hs
      refine andThen_normal ?_
      refine aw_seq ?_
      refine aw_reg [] [4] [] [] ⟨[(4, none, .val (.one (b1 true)))], []⟩ [] (by kernel_rfl) trivial (?_)
      refine andThen_normal ?_
      exact aw_ret (ends_data (ys := [.one (b1 true)]) (.inl rfl) (by kernel_rfl) (by kernel_rfl) hs)
    · rw [hd1, l_eqReservationS_l1] at hz1
      refine aw_seq ?_
      refine aw_seq ?_
      refine aw_reg [] [0, 1, 5, 14] [] [] ⟨[(0, none, .val (.one (.sl (List.map GReservation.enc a_a)))), (1, none, .val (.one (.sl (List.map GReservation.enc a_b)))), (5, none, .val (.one (I (k3 : Int)))), (14, none, .val (.one (b1 (decide (((k3 : Int) : Int) < ((List.map GReservation.enc a_a).length : Int))))))], []⟩ [] (by kernel_rfl) trivial (q_cast ⟨[(0, none, .val (.one (.sl (List.map GReservation.enc a_a)))), (1, none, .val (.one (.sl (List.map GReservation.enc a_b)))), (5, none, .val (.one (I (k3 : Int)))), (14, none, .val (.one (b1 (decide (((k3 : Int) : Int) < (a_a.length : Int))))))], []⟩ (by simp only [Int.toNat_natCast, List.length_map, List.nil_append, List.map_append, List.map_cons, List.map_nil, List.map_take, List.map_drop, List.map_replicate, encI, encS, encU]) ?_)
      refine andThen_normal ?_
      refine aw_cond (decide (((k3 : Int) : Int) < (a_a.length : Int))) (by kernel_rfl) (fun _ => ?_) (fun h => absurd h (by simp; omega))
      refine aw_pick [0, 1, 5] [] ⟨[(0, none, .val (.one (.sl (List.map GReservation.enc a_a)))), (1, none, .val (.one (.sl (List.map GReservation.enc a_b)))), (5, none, .val (.one (I (k3 : Int))))], []⟩ (by kernel_rfl) ?_
      refine aw_skip ?_
      refine andThen_normal ?_
      refine aw_seq ?_
      refine aw_block ?_
      refine aw_seq ?_
      refine aw_drw [(19, .elem (GReservation.enc x4)), (23, .elem (GReservation.enc (a_b.getD k3 GReservation.zero))), (25, .call [.agg (GReservation.enc x4), .agg (GReservation.enc (a_b.getD k3 GReservation.zero))] [.one (b1 (l_eqReservation x4 (a_b.getD k3 GReservation.zero)))] (none))] [0, 1, 2, 3, 4, 5, 6, 7, 8, 9] [0, 1, 5, 26] [] [] ⟨[(0, none, .val (.one (.sl (List.map GReservation.enc a_a)))), (1, none, .val (.one (.sl (List.map GReservation.enc a_b)))), (5, none, .val (.one (I (k3 : Int)))), (26, none, .val (.one (b1 (!(l_eqReservation x4 (a_b.getD k3 GReservation.zero))))))], []⟩ [(0 : Int) ≤ (k3 : Int), (List.map GReservation.enc a_a)[((k3 : Int) : Int).toNat]? = some (GReservation.enc x4), (0 : Int) ≤ (k3 : Int), (List.map GReservation.enc a_b)[((k3 : Int) : Int).toNat]? = some (GReservation.enc (a_b.getD k3 GReservation.zero)), ([.agg [I x4.ID, I x4.AS, I x4.Interface, I x4.Rate, I x4.Until], .agg [I ((a_b.getD k3 GReservation.zero).ID), I ((a_b.getD k3 GReservation.zero).AS), I ((a_b.getD k3 GReservation.zero).Interface), I ((a_b.getD k3 GReservation.zero).Rate), I ((a_b.getD k3 GReservation.zero).Until)]] : List AV) = [.agg (GReservation.enc x4), .agg (GReservation.enc (a_b.getD k3 GReservation.zero))], MeetsAt Try.prog 105 [.agg (GReservation.enc x4), .agg (GReservation.enc (a_b.getD k3 GReservation.zero))] [.one (b1 (l_eqReservation x4 (a_b.getD k3 GReservation.zero)))] (none)] (by kernel_rfl) (by kernel_rfl) (Nat.le_of_ble_eq_true rfl) (by kernel_rfl) ⟨(by first | omega | (simp only [List.length_map, List.length_append, List.length_cons, List.length_nil, List.length_replicate, List.length_set, decide_eq_true_eq, Bool.and_eq_true, Bool.not_eq_true', decide_eq_false_iff_not, Bool.cond_false_right, Bool.not_eq_false', Bool.cond_true_left, Bool.or_eq_false_iff, Bool.or_eq_true, bne_eq_false_iff_eq, bne_iff_ne, beq_iff_eq, beq_eq_false_iff_ne, ne_eq, Int.not_lt, Int.not_le, ge_iff_le, gt_iff_lt, maxLen] at *; omega)), (el_map hx1), (by first | omega | (simp only [List.length_map, List.length_append, List.length_cons, List.length_nil, List.length_replicate, List.length_set, decide_eq_true_eq, Bool.and_eq_true, Bool.not_eq_true', decide_eq_false_iff_not, Bool.cond_false_right, Bool.not_eq_false', Bool.cond_true_left, Bool.or_eq_false_iff, Bool.or_eq_true, bne_eq_false_iff_eq, bne_iff_ne, beq_iff_eq, beq_eq_false_iff_ne, ne_eq, Int.not_lt, Int.not_le, ge_iff_le, gt_iff_lt, maxLen] at *; omega)), (el_getD (n := (k3 : Int)) (by first | omega | (simp only [List.length_map, List.length_append, List.length_cons, List.length_nil, List.length_replicate, List.length_set, decide_eq_true_eq, Bool.and_eq_true, Bool.not_eq_true', decide_eq_false_iff_not, Bool.cond_false_right, Bool.not_eq_false', Bool.cond_true_left, Bool.or_eq_false_iff, Bool.or_eq_true, bne_eq_false_iff_eq, bne_iff_ne, beq_iff_eq, beq_eq_false_iff_ne, ne_eq, Int.not_lt, Int.not_le, ge_iff_le, gt_iff_lt, maxLen] at *; omega)) (by first | omega | (simp only [List.length_map, List.length_append, List.length_cons, List.length_nil, List.length_replicate, List.length_set, decide_eq_true_eq, Bool.and_eq_true, Bool.not_eq_true', decide_eq_false_iff_not, Bool.cond_false_right, Bool.not_eq_false', Bool.cond_true_left, Bool.or_eq_false_iff, Bool.or_eq_true, bne_eq_false_iff_eq, bne_iff_ne, beq_iff_eq, beq_eq_false_iff_ne, ne_eq, Int.not_lt, Int.not_le, ge_iff_le, gt_iff_lt, maxLen] at *; omega))), (by first | rfl | simp only [Int.toNat_natCast, List.length_map, List.nil_append, List.map_append, List.map_cons, List.map_nil, List.map_take, List.map_drop, List.map_replicate]), (l_eqReservation_ok x4 (a_b.getD k3 GReservation.zero)), trivial⟩ (?_)
      refine andThen_normal ?_
      refine aw_cond (!(l_eqReservation x4 (a_b.getD k3 GReservation.zero))) (by kernel_rfl) (fun h5 => ?_) (fun h5 => ?_)
      · rw [h5, cond_true] at hz1
        refine aw_seq ?_
        refine aw_reg [] [4] [] [] ⟨[(4, none, .val (.one (b1 false)))], []⟩ [] (by kernel_rfl) trivial (?_)
        refine andThen_normal ?_
        rw [← hz1, Sum.elim_inl] at hs
        exact aw_ret (ret_blk (ret_thru (ret_thru (ret_blk (ret_thru (ends_data (ys := [.one (b1 false)]) (.inl rfl) (by kernel_rfl) (by kernel_rfl) hs))))))
      · rw [h5, cond_false] at hz1
        refine aw_pick [0, 1, 5] [] ⟨[(0, none, .val (.one (.sl (List.map GReservation.enc a_a)))), (1, none, .val (.one (.sl (List.map GReservation.enc a_b)))), (5, none, .val (.one (I (k3 : Int))))], []⟩ (by kernel_rfl) ?_
        refine aw_skip ?_
        refine blk_normal ?_
        refine andThen_normal ?_
        refine aw_reg [] [0, 1, 5] [] [] ⟨[(0, none, .val (.one (.sl (List.map GReservation.enc a_a)))), (1, none, .val (.one (.sl (List.map GReservation.enc a_b)))), (5, none, .val (.one (I (wr ((k3 : Int) + 1)))))], []⟩ [] (by kernel_rfl) trivial (?_)
        exact ⟨a_a.length - (k3 + 1), by omega, k3 + 1, rfl, by omega, hz1, by rw [show wr ((k3 : Int) + 1) = ((k3 + 1 : Nat) : Int) from wrap_succ (by omega)]⟩

theorem l_eqUsageS_ok (a_a : List GUsage) (a_b : List GUsage) : MeetsAt Try.prog 67 [.one (.sl (List.map GUsage.enc a_a)), .one (.sl (List.map GUsage.enc a_b))] [.one (b1 (l_eqUsageS a_a a_b))] none := by
  generalize hs : ([.one (b1 (l_eqUsageS a_a a_b))] : List AV) = outs
  unfold l_eqUsageS at hs
  refine meets_data Try.func67 rfl (by kernel_rfl) (Nat.le_of_ble_eq_true rfl) ?_
  rintro ⟨P, m, w0, B, src, hsrc⟩ rfl rfl
  refine aw_seq ?_
  refine aw_reg [] [0, 1] [] [] ⟨[(0, none, .val (.one (.sl (List.map GUsage.enc a_a)))), (1, none, .val (.one (.sl (List.map GUsage.enc a_b))))], []⟩ [] (by kernel_rfl) trivial (?_)
  refine andThen_normal ?_
  refine aw_seq ?_
  refine aw_seq ?_
  refine aw_reg [] [0, 1, 10] [] [] ⟨[(0, none, .val (.one (.sl (List.map GUsage.enc a_a)))), (1, none, .val (.one (.sl (List.map GUsage.enc a_b)))), (10, none, .val (.one (b1 ((((List.map GUsage.enc a_a).length : Int) : Int) != ((List.map GUsage.enc a_b).length : Int)))))], []⟩ [] (by kernel_rfl) trivial (q_cast ⟨[(0, none, .val (.one (.sl (List.map GUsage.enc a_a)))), (1, none, .val (.one (.sl (List.map GUsage.enc a_b)))), (10, none, .val (.one (b1 (((a_a.length : Int) : Int) != (a_b.length : Int)))))], []⟩ (by simp only [Int.toNat_natCast, List.length_map, List.nil_append, List.map_append, List.map_cons, List.map_nil, List.map_take, List.map_drop, List.map_replicate, encI, encS, encU]) ?_)
  refine andThen_normal ?_
  refine aw_cond (((a_a.length : Int) : Int) != (a_b.length : Int)) (by kernel_rfl) (fun h1 => ?_) (fun h1 => ?_)
  · rw [h1, cond_true] at hs
    refine aw_seq ?_
    refine aw_reg [] [4] [] [] ⟨[(4, none, .val (.one (b1 false)))], []⟩ [] (by kernel_rfl) trivial (?_)
    refine andThen_normal ?_
    exact aw_ret (ret_thru (ends_data (ys := [.one (b1 false)]) (.inl rfl) (by kernel_rfl) (by kernel_rfl) hs))
  · rw [h1, cond_false] at hs
    refine aw_pick [0, 1] [] ⟨[(0, none, .val (.one (.sl (List.map GUsage.enc a_a)))), (1, none, .val (.one (.sl (List.map GUsage.enc a_b))))], []⟩ (by kernel_rfl) ?_
    refine aw_skip ?_
    refine andThen_normal ?_
    refine aw_seq ?_
    refine aw_seq ?_
    refine aw_reg [] [0, 1, 5] [] [] ⟨[(0, none, .val (.one (.sl (List.map GUsage.enc a_a)))), (1, none, .val (.one (.sl (List.map GUsage.enc a_b)))), (5, none, .val (.one (I 0)))], []⟩ [] (by kernel_rfl) trivial (?_)
    refine andThen_normal ?_
    refine aw_block ?_
    refine aw_len 0 (List.map GUsage.enc a_a) (by kernel_rfl) (fun hl1 => ?_)
    rw [List.length_map] at hl1
    generalize hz1 : l_eqUsageS_l1 a_b a_a 0 = z1 at hs
    refine aw_loop (fun m st => ∃ (k3 : Nat), m = a_a.length - k3 ∧ k3 ≤ a_a.length ∧ l_eqUsageS_l1 a_b (a_a.drop k3) k3 = z1 ∧ st = ⟨[(0, none, .val (.one (.sl (List.map GUsage.enc a_a)))), (1, none, .val (.one (.sl (List.map GUsage.enc a_b)))), (5, none, .val (.one (I (k3 : Int))))], []⟩) (a_a.length) ⟨0, rfl, Nat.zero_le _, hz1, by kernel_rfl⟩ ?_
    clear hz1
    rintro m s ⟨k3, rfl, hk1, hz1, rfl⟩
    rcases drop_cases a_a k3 hk1 with ⟨hd1, rfl⟩ | ⟨x4, hd1, hx1, hlt1⟩
    · rw [hd1, l_eqUsageS_l1] at hz1
      refine aw_seq ?_
      refine aw_seq ?_
      refine aw_reg [] [0, 1, 5, 14] [] [] ⟨[(0, none, .val (.one (.sl (List.map GUsage.enc a_a)))), (1, none, .val (.one (.sl (List.map GUsage.enc a_b)))), (5, none, .val (.one (I (a_a.length : Int)))), (14, none, .val (.one (b1 (decide (((a_a.length : Int) : Int) < ((List.map GUsage.enc a_a).length : Int))))))], []⟩ [] (by kernel_rfl) trivial (q_cast ⟨[(0, none, .val (.one (.sl (List.map GUsage.enc a_a)))), (1, none, .val (.one (.sl (List.map GUsage.enc a_b)))), (5, none, .val (.one (I (a_a.length : Int)))), (14, none, .val (.one (b1 (decide (((a_a.length : Int) : Int) < (a_a.length : Int))))))], []⟩ (by simp only [Int.toNat_natCast, List.length_map, List.nil_append, List.map_append, List.map_cons, List.map_nil, List.map_take, List.map_drop, List.map_replicate, encI, encS, encU]) ?_)
      refine andThen_normal ?_
      refine aw_cond (decide (((a_a.length : Int) : Int) < (a_a.length : Int))) (by kernel_rfl) (fun h => absurd h (by simp)) (fun _ => ?_)
      refine aw_pick [] [] ⟨[], []⟩ (by kernel_rfl) ?_
      refine aw_exit (exit_thru (exit_thru (exit_here 0 (?_))))
      rw [← hz1, Sum.elim_inr] at hs
      refine andThen_normal ?_
      refine aw_seq ?_
      refine aw_reg [] [4] [] [] ⟨[(4, none, .val (.one (b1 true)))], []⟩ [] (by kernel_rfl) trivial (?_)
      refine andThen_normal ?_
      exact aw_ret (ends_data (ys := [.one (b1 true)]) (.inl rfl) (by kernel_rfl) (by kernel_rfl) hs)
    · rw [hd1, l_eqUsageS_l1] at hz1
      refine aw_seq ?_
      refine aw_seq ?_
      refine aw_reg [] [0, 1, 5, 14] [] [] ⟨[(0, none, .val (.one (.sl (List.map GUsage.enc a_a)))), (1, none, .val (.one (.sl (List.map GUsage.enc a_b)))), (5, none, .val (.one (I (k3 : Int)))), (14, none, .val (.one (b1 (decide (((k3 : Int) : Int) < ((List.map GUsage.enc a_a).length : Int))))))], []⟩ [] (by kernel_rfl) trivial (q_cast ⟨[(0, none, .val (.one (.sl (List.map GUsage.enc a_a)))), (1, none, .val (.one (.sl (List.map GUsage.enc a_b)))), (5, none, .val (.one (I (k3 : Int)))), (14, none, .val (.one (b1 (decide (((k3 : Int) : Int) < (a_a.length : Int))))))], []⟩ (by simp only [Int.toNat_natCast, List.length_map, List.nil_append, List.map_append, List.map_cons, List.map_nil, List.map_take, List.map_drop, List.map_replicate, encI, encS, encU]) ?_)
      refine andThen_normal ?_
      refine aw_cond (decide (((k3 : Int) : Int) < (a_a.length : Int))) (by kernel_rfl) (fun _ => ?_) (fun h => absurd h (by simp; omega))
      refine aw_pick [0, 1, 5] [] ⟨[(0, none, .val (.one (.sl (List.map GUsage.enc a_a)))), (1, none, .val (.one (.sl (List.map GUsage.enc a_b)))), (5, none, .val (.one (I (k3 : Int))))], []⟩ (by kernel_rfl) ?_
      refine aw_skip ?_
      refine andThen_normal ?_
      refine aw_seq ?_
      refine aw_block ?_
      refine aw_seq ?_
      refine aw_drw [(19, .elem (GUsage.enc x4)), (23, .elem (GUsage.enc (a_b.getD k3 GUsage.zero))), (25, .call [.agg (GUsage.enc x4), .agg (GUsage.enc (a_b.getD k3 GUsage.zero))] [.one (b1 (l_eqUsage x4 (a_b.getD k3 GUsage.zero)))] (none))] [0, 1, 2, 3, 4, 5, 6, 7, 8, 9] [0, 1, 5, 26] [] [] ⟨[(0, none, .val (.one (.sl (List.map GUsage.enc a_a)))), (1, none, .val (.one (.sl (List.map GUsage.enc a_b)))), (5, none, .val (.one (I (k3 : Int)))), (26, none, .val (.one (b1 (!(l_eqUsage x4 (a_b.getD k3 GUsage.zero))))))], []⟩ [(0 : Int) ≤ (k3 : Int), (List.map GUsage.enc a_a)[((k3 : Int) : Int).toNat]? = some (GUsage.enc x4), (0 : Int) ≤ (k3 : Int), (List.map GUsage.enc a_b)[((k3 : Int) : Int).toNat]? = some (GUsage.enc (a_b.getD k3 GUsage.zero)), ([.agg [I x4.ID, I x4.AS, I x4.Interface, I x4.Count], .agg [I ((a_b.getD k3 GUsage.zero).ID), I ((a_b.getD k3 GUsage.zero).AS), I ((a_b.getD k3 GUsage.zero).Interface), I ((a_b.getD k3 GUsage.zero).Count)]] : List AV) = [.agg (GUsage.enc x4), .agg (GUsage.enc (a_b.getD k3 GUsage.zero))], MeetsAt Try.prog 106 [.agg (GUsage.enc x4), .agg (GUsage.enc (a_b.getD k3 GUsage.zero))] [.one (b1 (l_eqUsage x4 (a_b.getD k3 GUsage.zero)))] (none)] (by kernel_rfl) (by kernel_rfl) (Nat.le_of_ble_eq_true rfl) (by kernel_rfl) ⟨(by first | omega | (simp only [List.length_map, List.length_append, List.length_cons, List.length_nil, List.length_replicate, List.length_set, decide_eq_true_eq, Bool.and_eq_true, Bool.not_eq_true', decide_eq_false_iff_not, Bool.cond_false_right, Bool.not_eq_false', Bool.cond_true_left, Bool.or_eq_false_iff, Bool.or_eq_true, bne_eq_false_iff_eq, bne_iff_ne, beq_iff_eq, beq_eq_false_iff_ne, ne_eq, Int.not_lt, Int.not_le, ge_iff_le, gt_iff_lt, maxLen] at *; omega)), (el_map hx1), (by first | omega | (simp only [List.length_map, List.length_append, List.length_cons, List.length_nil, List.length_replicate, List.length_set, decide_eq_true_eq, Bool.and_eq_true, Bool.not_eq_true', decide_eq_false_iff_not, Bool.cond_false_right, Bool.not_eq_false', Bool.cond_true_left, Bool.or_eq_false_iff, Bool.or_eq_true, bne_eq_false_iff_eq, bne_iff_ne, beq_iff_eq, beq_eq_false_iff_ne, ne_eq, Int.not_lt, Int.not_le, ge_iff_le, gt_iff_lt, maxLen] at *; omega)), (el_getD (n := (k3 : Int)) (by first | omega | (simp only [List.length_map, List.length_append, List.length_cons, List.length_nil, List.length_replicate, List.length_set, decide_eq_true_eq, Bool.and_eq_true, Bool.not_eq_true', decide_eq_false_iff_not, Bool.cond_false_right, Bool.not_eq_false', Bool.cond_true_left, Bool.or_eq_false_iff, Bool.or_eq_true, bne_eq_false_iff_eq, bne_iff_ne, beq_iff_eq, beq_eq_false_iff_ne, ne_eq, Int.not_lt, Int.not_le, ge_iff_le, gt_iff_lt, maxLen] at *; omega)) (by first | omega | (simp only [List.length_map, List.length_append, List.length_cons, List.length_nil, List.length_replicate, List.length_set, decide_eq_true_eq, Bool.and_eq_true, Bool.not_eq_true', decide_eq_false_iff_not, Bool.cond_false_right, Bool.not_eq_false', Bool.cond_true_left, Bool.or_eq_false_iff, Bool.or_eq_true, bne_eq_false_iff_eq, bne_iff_ne, beq_iff_eq, beq_eq_false_iff_ne, ne_eq, Int.not_lt, Int.not_le, ge_iff_le, gt_iff_lt, maxLen] at *; omega))), (by first | rfl | simp only [Int.toNat_natCast, List.length_map, List.nil_append, List.map_append, List.map_cons, List.map_nil, List.map_take, List.map_drop, List.map_replicate]), (l_eqUsage_ok x4 (a_b.getD k3 GUsage.zero)), trivial⟩ (?_)
      refine andThen_normal ?_
      refine aw_cond (!(l_eqUsage x4 (a_b.getD k3 GUsage.zero))) (by kernel_rfl) (fun h5 => ?_) (fun h5 => ?_)
      · rw [h5, cond_true] at hz1
        refine aw_seq ?_
        refine aw_reg [] [4] [] [] ⟨[(4, none, .val (.one (b1 false)))], []⟩ [] (by kernel_rfl) trivial (?_)
        refine andThen_normal ?_
        rw [← hz1, Sum.elim_inl] at hs
        exact aw_ret (ret_blk (ret_thru (ret_thru (ret_blk (ret_thru (ends_data (ys := [.one (b1 false)]) (.inl rfl) (by kernel_rfl) (by kernel_rfl) hs))))))
      · rw [h5, cond_false] at hz1
        refine aw_pick [0, 1, 5] [] ⟨[(0, none, .val (.one (.sl (List.map GUsage.enc a_a)))), (1, none, .val (.one (.sl (List.map GUsage.enc a_b)))), (5, none, .val (.one (I (k3 : Int))))], []⟩ (by kernel_rfl) ?_
        refine aw_skip ?_
        refine blk_normal ?_
        refine andThen_normal ?_
        refine aw_reg [] [0, 1, 5] [] [] ⟨[(0, none, .val (.one (.sl (List.map GUsage.enc a_a)))), (1, none, .val (.one (.sl (List.map GUsage.enc a_b)))), (5, none, .val (.one (I (wr ((k3 : Int) + 1)))))], []⟩ [] (by kernel_rfl) trivial (?_)
        exact ⟨a_a.length - (k3 + 1), by omega, k3 + 1, rfl, by omega, hz1, by rw [show wr ((k3 : Int) + 1) = ((k3 + 1 : Nat) : Int) from wrap_succ (by omega)]⟩

theorem l_toReservationS_ok (a_a : List GReservation) (hp : T.Sm (.sl (a_a.map GReservation.enc))) : MeetsAt Try.prog 75 [.one (.sl (List.map GReservation.enc a_a))] [.one (.sl (List.map GReservation.enc (l_toReservationS a_a)))] (some [[(69, 5)]]) := by
  generalize hs : ([.one (.sl (List.map GReservation.enc (l_toReservationS a_a)))] : List AV) = outs
  unfold l_toReservationS at hs
  refine meets_fresh Try.func75 rfl (by kernel_rfl) (Nat.le_of_ble_eq_true rfl) ?_
  rintro ⟨P, m, w0, B, src, hsrc⟩ rfl rfl
  have hf0 := hp.len
  refine aw_seq ?_
  refine aw_reg [] [0] [] [] ⟨[(0, none, .val (.one (.sl (List.map GReservation.enc a_a))))], []⟩ [] (by kernel_rfl) trivial (?_)
  refine andThen_normal ?_
  refine aw_seq ?_
  refine aw_reg [] [0, 3] [7] [] ⟨[(0, none, .val (.one (.sl (List.map GReservation.enc a_a)))), (3, none, .val (.one (.row 7)))], [(7, .row 69 5 (List.replicate (((List.map GReservation.enc a_a).length : Int)).toNat [I 0, I 0, I 0, I 0, I 0]) true)]⟩ [((List.map GReservation.enc a_a).length : Int) = ((List.map GReservation.enc a_a).length : Int), (0 : Int) ≤ ((List.map GReservation.enc a_a).length : Int), ((40 : Nat) : Int) * ((List.map GReservation.enc a_a).length : Int) ≤ 281474976710656, ((List.map GReservation.enc a_a).length : Int) ≤ 4611686018427387904] (by kernel_rfl) ⟨rfl, (by first | omega | (simp only [List.length_map, List.length_append, List.length_cons, List.length_nil, List.length_replicate, List.length_set, decide_eq_true_eq, Bool.and_eq_true, Bool.not_eq_true', decide_eq_false_iff_not, Bool.cond_false_right, Bool.not_eq_false', Bool.cond_true_left, Bool.or_eq_false_iff, Bool.or_eq_true, bne_eq_false_iff_eq, bne_iff_ne, beq_iff_eq, beq_eq_false_iff_ne, ne_eq, Int.not_lt, Int.not_le, ge_iff_le, gt_iff_lt, maxLen] at *; omega)), (by first | omega | (simp only [List.length_map, List.length_append, List.length_cons, List.length_nil, List.length_replicate, List.length_set, decide_eq_true_eq, Bool.and_eq_true, Bool.not_eq_true', decide_eq_false_iff_not, Bool.cond_false_right, Bool.not_eq_false', Bool.cond_true_left, Bool.or_eq_false_iff, Bool.or_eq_true, bne_eq_false_iff_eq, bne_iff_ne, beq_iff_eq, beq_eq_false_iff_ne, ne_eq, Int.not_lt, Int.not_le, ge_iff_le, gt_iff_lt, maxLen] at *; omega)), (by first | omega | (simp only [List.length_map, List.length_append, List.length_cons, List.length_nil, List.length_replicate, List.length_set, decide_eq_true_eq, Bool.and_eq_true, Bool.not_eq_true', decide_eq_false_iff_not, Bool.cond_false_right, Bool.not_eq_false', Bool.cond_true_left, Bool.or_eq_false_iff, Bool.or_eq_true, bne_eq_false_iff_eq, bne_iff_ne, beq_iff_eq, beq_eq_false_iff_ne, ne_eq, Int.not_lt, Int.not_le, ge_iff_le, gt_iff_lt, maxLen] at *; omega)), trivial⟩ (q_cast ⟨[(0, none, .val (.one (.sl (List.map GReservation.enc a_a)))), (3, none, .val (.one (.row 7)))], [(7, .row 69 5 (List.map GReservation.enc (List.replicate a_a.length GReservation.zero)) true)]⟩ (by simp only [Int.toNat_natCast, List.length_map, List.nil_append, List.map_append, List.map_cons, List.map_nil, List.map_take, List.map_drop, List.map_replicate, GReservation.enc, GReservation.zero, encI, encS, encU]) ?_)
  refine andThen_normal ?_
  refine aw_seq ?_
  refine aw_seq ?_
  refine aw_reg [] [0, 3, 4] [7] [] ⟨[(0, none, .val (.one (.sl (List.map GReservation.enc a_a)))), (3, none, .val (.one (.row 7))), (4, none, .val (.one (I 0)))], [(7, .row 69 5 (List.map GReservation.enc (List.replicate a_a.length GReservation.zero)) true)]⟩ [] (by kernel_rfl) trivial (?_)
  refine andThen_normal ?_
  refine aw_block ?_
  refine aw_len 0 (List.map GReservation.enc a_a) (by kernel_rfl) (fun hl1 => ?_)
  rw [List.length_map] at hl1
  generalize hz1 : l_toReservationS_l1  a_a 0 (List.replicate a_a.length GReservation.zero) = z1 at hs
  refine aw_loop (fun m st => ∃ (k3 : Nat) (c2 : List GReservation), m = a_a.length - k3 ∧ k3 ≤ a_a.length ∧ c2.length = (List.replicate a_a.length GReservation.zero).length ∧ l_toReservationS_l1  (a_a.drop k3) k3 c2 = z1 ∧ st = ⟨[(0, none, .val (.one (.sl (List.map GReservation.enc a_a)))), (3, none, .val (.one (.row 7))), (4, none, .val (.one (I (k3 : Int))))], [(7, .row 69 5 (List.map GReservation.enc c2) true)]⟩) (a_a.length) ⟨0, List.replicate a_a.length GReservation.zero, rfl, Nat.zero_le _, rfl, hz1, by kernel_rfl⟩ ?_
  clear hz1
  rintro m s ⟨k3, c2, rfl, hk1, hic2, hz1, rfl⟩
  rcases drop_cases a_a k3 hk1 with ⟨hd1, rfl⟩ | ⟨x4, hd1, hx1, hlt1⟩
  · rw [hd1, l_toReservationS_l1] at hz1
    refine aw_seq ?_
    refine aw_seq ?_
    refine aw_reg [] [0, 3, 4, 11] [7] [] ⟨[(0, none, .val (.one (.sl (List.map GReservation.enc a_a)))), (3, none, .val (.one (.row 7))), (4, none, .val (.one (I (a_a.length : Int)))), (11, none, .val (.one (b1 (decide (((a_a.length : Int) : Int) < ((List.map GReservation.enc a_a).length : Int))))))], [(7, .row 69 5 (List.map GReservation.enc c2) true)]⟩ [] (by kernel_rfl) trivial (q_cast ⟨[(0, none, .val (.one (.sl (List.map GReservation.enc a_a)))), (3, none, .val (.one (.row 7))), (4, none, .val (.one (I (a_a.length : Int)))), (11, none, .val (.one (b1 (decide (((a_a.length : Int) : Int) < (a_a.length : Int))))))], [(7, .row 69 5 (List.map GReservation.enc c2) true)]⟩ (by simp only [Int.toNat_natCast, List.length_map, List.nil_append, List.map_append, List.map_cons, List.map_nil, List.map_take, List.map_drop, List.map_replicate, GReservation.enc, GReservation.zero, encI, encS, encU]) ?_)
    refine andThen_normal ?_
    refine aw_cond (decide (((a_a.length : Int) : Int) < (a_a.length : Int))) (by kernel_rfl) (fun h => absurd h (by simp)) (fun _ => ?_)
    refine aw_pick [3] [7] ⟨[(3, none, .val (.one (.row 7)))], [(7, .row 69 5 (List.map GReservation.enc c2) true)]⟩ (by kernel_rfl) ?_
    refine aw_exit (exit_thru (exit_thru (exit_here 0 (?_))))
    rw [← hz1] at hs
    refine andThen_normal ?_
    refine aw_seq ?_
    refine aw_reg [] [2] [7] [] ⟨[(2, none, .val (.one (.row 7)))], [(7, .row 69 5 (List.map GReservation.enc c2) true)]⟩ [] (by kernel_rfl) trivial (?_)
    refine andThen_normal ?_
    exact aw_ret (ends_fresh (ys := [.one (.row 7)]) (ids := [7]) (.inl rfl) (by kernel_rfl) (by kernel_rfl) rfl hs)
  · rw [hd1, l_toReservationS_l1] at hz1
    refine aw_seq ?_
    refine aw_seq ?_
    refine aw_reg [] [0, 3, 4, 11] [7] [] ⟨[(0, none, .val (.one (.sl (List.map GReservation.enc a_a)))), (3, none, .val (.one (.row 7))), (4, none, .val (.one (I (k3 : Int)))), (11, none, .val (.one (b1 (decide (((k3 : Int) : Int) < ((List.map GReservation.enc a_a).length : Int))))))], [(7, .row 69 5 (List.map GReservation.enc c2) true)]⟩ [] (by kernel_rfl) trivial (q_cast ⟨[(0, none, .val (.one (.sl (List.map GReservation.enc a_a)))), (3, none, .val (.one (.row 7))), (4, none, .val (.one (I (k3 : Int)))), (11, none, .val (.one (b1 (decide (((k3 : Int) : Int) < (a_a.length : Int))))))], [(7, .row 69 5 (List.map GReservation.enc c2) true)]⟩ (by simp only [Int.toNat_natCast, List.length_map, List.nil_append, List.map_append, List.map_cons, List.map_nil, List.map_take, List.map_drop, List.map_replicate, GReservation.enc, GReservation.zero, encI, encS, encU]) ?_)
    refine andThen_normal ?_
    refine aw_cond (decide (((k3 : Int) : Int) < (a_a.length : Int))) (by kernel_rfl) (fun _ => ?_) (fun h => absurd h (by simp; omega))
    refine aw_pick [0, 3, 4] [7] ⟨[(0, none, .val (.one (.sl (List.map GReservation.enc a_a)))), (3, none, .val (.one (.row 7))), (4, none, .val (.one (I (k3 : Int))))], [(7, .row 69 5 (List.map GReservation.enc c2) true)]⟩ (by kernel_rfl) ?_
    refine aw_skip ?_
    refine andThen_normal ?_
    refine aw_seq ?_
    refine aw_block ?_
    refine aw_reg [(18, .elem (GReservation.enc x4)), (20, .call [.agg (GReservation.enc x4)] [.agg (GReservation.enc (l_toReservation x4))] (none))] [0, 3, 4] [7] [] ⟨[(0, none, .val (.one (.sl (List.map GReservation.enc a_a)))), (3, none, .val (.one (.row 7))), (4, none, .val (.one (I (k3 : Int))))], [(7, .row 69 5 (setEl 5 (List.map GReservation.enc c2) (((k3 : Int)).toNat) 0 [I ((l_toReservation x4).ID), I ((l_toReservation x4).AS), I ((l_toReservation x4).Interface), I ((l_toReservation x4).Rate), I ((l_toReservation x4).Until)]) true)]⟩ [(0 : Int) ≤ (k3 : Int), (List.map GReservation.enc a_a)[((k3 : Int) : Int).toNat]? = some (GReservation.enc x4), ([.agg [I x4.ID, I x4.AS, I x4.Interface, I x4.Rate, I x4.Until]] : List AV) = [.agg (GReservation.enc x4)], MeetsAt Try.prog 107 [.agg (GReservation.enc x4)] [.agg (GReservation.enc (l_toReservation x4))] (none), (0 : Int) ≤ (k3 : Int), (k3 : Int) < ((List.map GReservation.enc c2).length : Int), (((k3 : Int)).toNat) < (List.map GReservation.enc c2).length] (by kernel_rfl) ⟨(by first | omega | (simp only [List.length_map, List.length_append, List.length_cons, List.length_nil, List.length_replicate, List.length_set, decide_eq_true_eq, Bool.and_eq_true, Bool.not_eq_true', decide_eq_false_iff_not, Bool.cond_false_right, Bool.not_eq_false', Bool.cond_true_left, Bool.or_eq_false_iff, Bool.or_eq_true, bne_eq_false_iff_eq, bne_iff_ne, beq_iff_eq, beq_eq_false_iff_ne, ne_eq, Int.not_lt, Int.not_le, ge_iff_le, gt_iff_lt, maxLen] at *; omega)), (el_map hx1), (by first | rfl | simp only [Int.toNat_natCast, List.length_map, List.nil_append, List.map_append, List.map_cons, List.map_nil, List.map_take, List.map_drop, List.map_replicate]), (l_toReservation_ok x4 (by first | assumption | exact hp.el (List.mem_of_getElem? hx1) | exact hp _ (by simp []) | exact hf0 (by assumption) | exact hf1 (by assumption) (by assumption) | omega)), (by first | omega | (simp only [List.length_map, List.length_append, List.length_cons, List.length_nil, List.length_replicate, List.length_set, decide_eq_true_eq, Bool.and_eq_true, Bool.not_eq_true', decide_eq_false_iff_not, Bool.cond_false_right, Bool.not_eq_false', Bool.cond_true_left, Bool.or_eq_false_iff, Bool.or_eq_true, bne_eq_false_iff_eq, bne_iff_ne, beq_iff_eq, beq_eq_false_iff_ne, ne_eq, Int.not_lt, Int.not_le, ge_iff_le, gt_iff_lt, maxLen] at *; omega)), (by first | omega | (simp only [List.length_map, List.length_append, List.length_cons, List.length_nil, List.length_replicate, List.length_set, decide_eq_true_eq, Bool.and_eq_true, Bool.not_eq_true', decide_eq_false_iff_not, Bool.cond_false_right, Bool.not_eq_false', Bool.cond_true_left, Bool.or_eq_false_iff, Bool.or_eq_true, bne_eq_false_iff_eq, bne_iff_ne, beq_iff_eq, beq_eq_false_iff_ne, ne_eq, Int.not_lt, Int.not_le, ge_iff_le, gt_iff_lt, maxLen] at *; omega)), (by first | omega | (simp only [List.length_map, List.length_append, List.length_cons, List.length_nil, List.length_replicate, List.length_set, decide_eq_true_eq, Bool.and_eq_true, Bool.not_eq_true', decide_eq_false_iff_not, Bool.cond_false_right, Bool.not_eq_false', Bool.cond_true_left, Bool.or_eq_false_iff, Bool.or_eq_true, bne_eq_false_iff_eq, bne_iff_ne, beq_iff_eq, beq_eq_false_iff_ne, ne_eq, Int.not_lt, Int.not_le, ge_iff_le, gt_iff_lt, maxLen] at *; omega)), trivial⟩ (q_cast ⟨[(0, none, .val (.one (.sl (List.map GReservation.enc a_a)))), (3, none, .val (.one (.row 7))), (4, none, .val (.one (I (k3 : Int))))], [(7, .row 69 5 (List.map GReservation.enc (c2.set k3 (l_toReservation x4))) true)]⟩ (by (try rw [setEl_set (en := GReservation.enc) (k := 5) (ts := [I ((l_toReservation x4).ID), I ((l_toReservation x4).AS), I ((l_toReservation x4).Interface), I ((l_toReservation x4).Rate), I ((l_toReservation x4).Until)]) (l_toReservation x4) rfl rfl]) <;> (try simp only [Int.toNat_natCast, List.length_map, List.nil_append, List.map_append, List.map_cons, List.map_nil, List.map_take, List.map_drop, List.map_replicate, GReservation.enc, GReservation.zero, encI, encS, encU])) ?_)
    refine blk_normal ?_
    refine andThen_normal ?_
    refine aw_reg [] [0, 3, 4] [7] [] ⟨[(0, none, .val (.one (.sl (List.map GReservation.enc a_a)))), (3, none, .val (.one (.row 7))), (4, none, .val (.one (I (wr ((k3 : Int) + 1)))))], [(7, .row 69 5 (List.map GReservation.enc (c2.set k3 (l_toReservation x4))) true)]⟩ [] (by kernel_rfl) trivial (?_)
    exact ⟨a_a.length - (k3 + 1), by omega, k3 + 1, c2.set k3 (l_toReservation x4), rfl, by omega, by simp only [List.length_set, List.length_modify]; assumption, hz1, by rw [show wr ((k3 : Int) + 1) = ((k3 + 1 : Nat) : Int) from wrap_succ (by omega)]⟩

theorem l_toUsageS_ok (a_a : List GUsage) (hp : T.Sm (.sl (a_a.map GUsage.enc))) : MeetsAt Try.prog 76 [.one (.sl (List.map GUsage.enc a_a))] [.one (.sl (List.map GUsage.enc (l_toUsageS a_a)))] (some [[(97, 4)]]) := by
  generalize hs : ([.one (.sl (List.map GUsage.enc (l_toUsageS a_a)))] : List AV) = outs
  unfold l_toUsageS at hs
  refine meets_fresh Try.func76 rfl (by kernel_rfl) (Nat.le_of_ble_eq_true rfl) ?_
  rintro ⟨P, m, w0, B, src, hsrc⟩ rfl rfl
  have hf0 := hp.len
  refine aw_seq ?_
  refine aw_reg [] [0] [] [] ⟨[(0, none, .val (.one (.sl (List.map GUsage.enc a_a))))], []⟩ [] (by kernel_rfl) trivial (?_)
  refine andThen_normal ?_
  refine aw_seq ?_
  refine aw_reg [] [0, 3] [7] [] ⟨[(0, none, .val (.one (.sl (List.map GUsage.enc a_a)))), (3, none, .val (.one (.row 7)))], [(7, .row 97 4 (List.replicate (((List.map GUsage.enc a_a).length : Int)).toNat [I 0, I 0, I 0, I 0]) true)]⟩ [((List.map GUsage.enc a_a).length : Int) = ((List.map GUsage.enc a_a).length : Int), (0 : Int) ≤ ((List.map GUsage.enc a_a).length : Int), ((32 : Nat) : Int) * ((List.map GUsage.enc a_a).length : Int) ≤ 281474976710656, ((List.map GUsage.enc a_a).length : Int) ≤ 4611686018427387904] (by kernel_rfl) ⟨rfl, (by first | omega | (simp only [List.length_map, List.length_append, List.length_cons, List.length_nil, List.length_replicate, List.length_set, decide_eq_true_eq, Bool.and_eq_true, Bool.not_eq_true', decide_eq_false_iff_not, Bool.cond_false_right, Bool.not_eq_false', Bool.cond_true_left, Bool.or_eq_false_iff, Bool.or_eq_true, bne_eq_false_iff_eq, bne_iff_ne, beq_iff_eq, beq_eq_false_iff_ne, ne_eq, Int.not_lt, Int.not_le, ge_iff_le, gt_iff_lt, maxLen] at *; omega)), (by first | omega | (simp only [List.length_map, List.length_append, List.length_cons, List.length_nil, List.length_replicate, List.length_set, decide_eq_true_eq, Bool.and_eq_true, Bool.not_eq_true', decide_eq_false_iff_not, Bool.cond_false_right, Bool.not_eq_false', Bool.cond_true_left, Bool.or_eq_false_iff, Bool.or_eq_true, bne_eq_false_iff_eq, bne_iff_ne, beq_iff_eq, beq_eq_false_iff_ne, ne_eq, Int.not_lt, Int.not_le, ge_iff_le, gt_iff_lt, maxLen] at *; omega)), (by first | omega | (simp only [List.length_map, List.length_append, List.length_cons, List.length_nil, List.length_replicate, List.length_set, decide_eq_true_eq, Bool.and_eq_true, Bool.not_eq_true', decide_eq_false_iff_not, Bool.cond_false_right, Bool.not_eq_false', Bool.cond_true_left, Bool.or_eq_false_iff, Bool.or_eq_true, bne_eq_false_iff_eq, bne_iff_ne, beq_iff_eq, beq_eq_false_iff_ne, ne_eq, Int.not_lt, Int.not_le, ge_iff_le, gt_iff_lt, maxLen] at *; omega)), trivial⟩ (q_cast ⟨[(0, none, .val (.one (.sl (List.map GUsage.enc a_a)))), (3, none, .val (.one (.row 7)))], [(7, .row 97 4 (List.map GUsage.enc (List.replicate a_a.length GUsage.zero)) true)]⟩ (by simp only [Int.toNat_natCast, List.length_map, List.nil_append, List.map_append, List.map_cons, List.map_nil, List.map_take, List.map_drop, List.map_replicate, GUsage.enc, GUsage.zero, encI, encS, encU]) ?_)
  refine andThen_normal ?_
  refine aw_seq ?_
  refine aw_seq ?_
  refine aw_reg [] [0, 3, 4] [7] [] ⟨[(0, none, .val (.one (.sl (List.map GUsage.enc a_a)))), (3, none, .val (.one (.row 7))), (4, none, .val (.one (I 0)))], [(7, .row 97 4 (List.map GUsage.enc (List.replicate a_a.length GUsage.zero)) true)]⟩ [] (by kernel_rfl) trivial (?_)
  refine andThen_normal ?_
  refine aw_block ?_
  refine aw_len 0 (List.map GUsage.enc a_a) (by kernel_rfl) (fun hl1 => ?_)
  rw [List.length_map] at hl1
  generalize hz1 : l_toUsageS_l1  a_a 0 (List.replicate a_a.length GUsage.zero) = z1 at hs
  refine aw_loop (fun m st => ∃ (k3 : Nat) (c2 : List GUsage), m = a_a.length - k3 ∧ k3 ≤ a_a.length ∧ c2.length = (List.replicate a_a.length GUsage.zero).length ∧ l_toUsageS_l1  (a_a.drop k3) k3 c2 = z1 ∧ st = ⟨[(0, none, .val (.one (.sl (List.map GUsage.enc a_a)))), (3, none, .val (.one (.row 7))), (4, none, .val (.one (I (k3 : Int))))], [(7, .row 97 4 (List.map GUsage.enc c2) true)]⟩) (a_a.length) ⟨0, List.replicate a_a.length GUsage.zero, rfl, Nat.zero_le _, rfl, hz1, by kernel_rfl⟩ ?_
  clear hz1
  rintro m s ⟨k3, c2, rfl, hk1, hic2, hz1, rfl⟩
  rcases drop_cases a_a k3 hk1 with ⟨hd1, rfl⟩ | ⟨x4, hd1, hx1, hlt1⟩
  · rw [hd1, l_toUsageS_l1] at hz1
    refine aw_seq ?_
    refine aw_seq ?_
    refine aw_reg [] [0, 3, 4, 11] [7] [] ⟨[(0, none, .val (.one (.sl (List.map GUsage.enc a_a)))), (3, none, .val (.one (.row 7))), (4, none, .val (.one (I (a_a.length : Int)))), (11, none, .val (.one (b1 (decide (((a_a.length : Int) : Int) < ((List.map GUsage.enc a_a).length : Int))))))], [(7, .row 97 4 (List.map GUsage.enc c2) true)]⟩ [] (by kernel_rfl) trivial (q_cast ⟨[(0, none, .val (.one (.sl (List.map GUsage.enc a_a)))), (3, none, .val (.one (.row 7))), (4, none, .val (.one (I (a_a.length : Int)))), (11, none, .val (.one (b1 (decide (((a_a.length : Int) : Int) < (a_a.length : Int))))))], [(7, .row 97 4 (List.map GUsage.enc c2) true)]⟩ (by simp only [Int.toNat_natCast, List.length_map, List.nil_append, List.map_append, List.map_cons, List.map_nil, List.map_take, List.map_drop, List.map_replicate, GUsage.enc, GUsage.zero, encI, encS, encU]) ?_)
    refine andThen_normal ?_
    refine aw_cond (decide (((a_a.length : Int) : Int) < (a_a.length : Int))) (by kernel_rfl) (fun h => absurd h (by simp)) (fun _ => ?_)
    refine aw_pick [3] [7] ⟨[(3, none, .val (.one (.row 7)))], [(7, .row 97 4 (List.map GUsage.enc c2) true)]⟩ (by kernel_rfl) ?_
    refine aw_exit (exit_thru (exit_thru (exit_here 0 (?_))))
    rw [← hz1] at hs
    refine andThen_normal ?_
    refine aw_seq ?_
    refine aw_reg [] [2] [7] [] ⟨[(2, none, .val (.one (.row 7)))], [(7, .row 97 4 (List.map GUsage.enc c2) true)]⟩ [] (by kernel_rfl) trivial (?_)
    refine andThen_normal ?_
    exact aw_ret (ends_fresh (ys := [.one (.row 7)]) (ids := [7]) (.inl rfl) (by kernel_rfl) (by kernel_rfl) rfl hs)
  · rw [hd1, l_toUsageS_l1] at hz1
    refine aw_seq ?_
    refine aw_seq ?_
    refine aw_reg [] [0, 3, 4, 11] [7] [] ⟨[(0, none, .val (.one (.sl (List.map GUsage.enc a_a)))), (3, none, .val (.one (.row 7))), (4, none, .val (.one (I (k3 : Int)))), (11, none, .val (.one (b1 (decide (((k3 : Int) : Int) < ((List.map GUsage.enc a_a).length : Int))))))], [(7, .row 97 4 (List.map GUsage.enc c2) true)]⟩ [] (by kernel_rfl) trivial (q_cast ⟨[(0, none, .val (.one (.sl (List.map GUsage.enc a_a)))), (3, none, .val (.one (.row 7))), (4, none, .val (.one (I (k3 : Int)))), (11, none, .val (.one (b1 (decide (((k3 : Int) : Int) < (a_a.length : Int))))))], [(7, .row 97 4 (List.map GUsage.enc c2) true)]⟩ (by simp only [Int.toNat_natCast, List.length_map, List.nil_append, List.map_append, List.map_cons, List.map_nil, List.map_take, List.map_drop, List.map_replicate, GUsage.enc, GUsage.zero, encI, encS, encU]) ?_)
    refine andThen_normal ?_
    refine aw_cond (decide (((k3 : Int) : Int) < (a_a.length : Int))) (by kernel_rfl) (fun _ => ?_) (fun h => absurd h (by simp; omega))
    refine aw_pick [0, 3, 4] [7] ⟨[(0, none, .val (.one (.sl (List.map GUsage.enc a_a)))), (3, none, .val (.one (.row 7))), (4, none, .val (.one (I (k3 : Int))))], [(7, .row 97 4 (List.map GUsage.enc c2) true)]⟩ (by kernel_rfl) ?_
    refine aw_skip ?_
    refine andThen_normal ?_
    refine aw_seq ?_
    refine aw_block ?_
    refine aw_reg [(18, .elem (GUsage.enc x4)), (20, .call [.agg (GUsage.enc x4)] [.agg (GUsage.enc (l_toUsage x4))] (none))] [0, 3, 4] [7] [] ⟨[(0, none, .val (.one (.sl (List.map GUsage.enc a_a)))), (3, none, .val (.one (.row 7))), (4, none, .val (.one (I (k3 : Int))))], [(7, .row 97 4 (setEl 4 (List.map GUsage.enc c2) (((k3 : Int)).toNat) 0 [I ((l_toUsage x4).ID), I ((l_toUsage x4).AS), I ((l_toUsage x4).Interface), I ((l_toUsage x4).Count)]) true)]⟩ [(0 : Int) ≤ (k3 : Int), (List.map GUsage.enc a_a)[((k3 : Int) : Int).toNat]? = some (GUsage.enc x4), ([.agg [I x4.ID, I x4.AS, I x4.Interface, I x4.Count]] : List AV) = [.agg (GUsage.enc x4)], MeetsAt Try.prog 108 [.agg (GUsage.enc x4)] [.agg (GUsage.enc (l_toUsage x4))] (none), (0 : Int) ≤ (k3 : Int), (k3 : Int) < ((List.map GUsage.enc c2).length : Int), (((k3 : Int)).toNat) < (List.map GUsage.enc c2).length] (by kernel_rfl) ⟨(by first | omega | (simp only [List.length_map, List.length_append, List.length_cons, List.length_nil, List.length_replicate, List.length_set, decide_eq_true_eq, Bool.and_eq_true, Bool.not_eq_true', decide_eq_false_iff_not, Bool.cond_false_right, Bool.not_eq_false', Bool.cond_true_left, Bool.or_eq_false_iff, Bool.or_eq_true, bne_eq_false_iff_eq, bne_iff_ne, beq_iff_eq, beq_eq_false_iff_ne, ne_eq, Int.not_lt, Int.not_le, ge_iff_le, gt_iff_lt, maxLen] at *; omega)), (el_map hx1), (by first | rfl | simp only [Int.toNat_natCast, List.length_map, List.nil_append, List.map_append, List.map_cons, List.map_nil, List.map_take, List.map_drop, List.map_replicate]), (l_toUsage_ok x4 (by first | assumption | exact hp.el (List.mem_of_getElem? hx1) | exact hp _ (by simp []) | exact hf0 (by assumption) | exact hf1 (by assumption) (by assumption) | omega)), (by first | omega | (simp only [List.length_map, List.length_append, List.length_cons, List.length_nil, List.length_replicate, List.length_set, decide_eq_true_eq, Bool.and_eq_true, Bool.not_eq_true', decide_eq_false_iff_not, Bool.cond_false_right, Bool.not_eq_false', Bool.cond_true_left, Bool.or_eq_false_iff, Bool.or_eq_true, bne_eq_false_iff_eq, bne_iff_ne, beq_iff_eq, beq_eq_false_iff_ne, ne_eq, Int.not_lt, Int.not_le, ge_iff_le, gt_iff_lt, maxLen] at *; omega)), (by first | omega | (simp only [List.length_map, List.length_append, List.length_cons, List.length_nil, List.length_replicate, List.length_set, decide_eq_true_eq, Bool.and_eq_true, Bool.not_eq_true', decide_eq_false_iff_not, Bool.cond_false_right, Bool.not_eq_false', Bool.cond_true_left, Bool.or_eq_false_iff, Bool.or_eq_true, bne_eq_false_iff_eq, bne_iff_ne, beq_iff_eq, beq_eq_false_iff_ne, ne_eq, Int.not_lt, Int.not_le, ge_iff_le, gt_iff_lt, maxLen] at *; omega)), (by first | omega | (simp only [List.length_map, List.length_append, List.length_cons, List.length_nil, List.length_replicate, List.length_set, decide_eq_true_eq, Bool.and_eq_true, Bool.not_eq_true', decide_eq_false_iff_not, Bool.cond_false_right, Bool.not_eq_false', Bool.cond_true_left, Bool.or_eq_false_iff, Bool.or_eq_true, bne_eq_false_iff_eq, bne_iff_ne, beq_iff_eq, beq_eq_false_iff_ne, ne_eq, Int.not_lt, Int.not_le, ge_iff_le, gt_iff_lt, maxLen] at *; omega)), trivial⟩ (q_cast ⟨[(0, none, .val (.one (.sl (List.map GUsage.enc a_a)))), (3, none, .val (.one (.row 7))), (4, none, .val (.one (I (k3 : Int))))], [(7, .row 97 4 (List.map GUsage.enc (c2.set k3 (l_toUsage x4))) true)]⟩ (by (try rw [setEl_set (en := GUsage.enc) (k := 4) (ts := [I ((l_toUsage x4).ID), I ((l_toUsage x4).AS), I ((l_toUsage x4).Interface), I ((l_toUsage x4).Count)]) (l_toUsage x4) rfl rfl]) <;> (try simp only [Int.toNat_natCast, List.length_map, List.nil_append, List.map_append, List.map_cons, List.map_nil, List.map_take, List.map_drop, List.map_replicate, GUsage.enc, GUsage.zero, encI, encS, encU])) ?_)
    refine blk_normal ?_
    refine andThen_normal ?_
    refine aw_reg [] [0, 3, 4] [7] [] ⟨[(0, none, .val (.one (.sl (List.map GUsage.enc a_a)))), (3, none, .val (.one (.row 7))), (4, none, .val (.one (I (wr ((k3 : Int) + 1)))))], [(7, .row 97 4 (List.map GUsage.enc (c2.set k3 (l_toUsage x4))) true)]⟩ [] (by kernel_rfl) trivial (?_)
    exact ⟨a_a.length - (k3 + 1), by omega, k3 + 1, c2.set k3 (l_toUsage x4), rfl, by omega, by simp only [List.length_set, List.length_modify]; assumption, hz1, by rw [show wr ((k3 : Int) + 1) = ((k3 + 1 : Nat) : Int) from wrap_succ (by omega)]⟩

theorem l_eqScheduler_ok (a_a : GScheduler) (a_b : GScheduler) : MeetsAt Try.prog 35 [.agg (GScheduler.enc a_a), .agg (GScheduler.enc a_b)] [.one (b1 (l_eqScheduler a_a a_b))] none := by
  generalize hs : ([.one (b1 (l_eqScheduler a_a a_b))] : List AV) = outs
  unfold l_eqScheduler at hs
  refine meets_data Try.func35 rfl (by kernel_rfl) (Nat.le_of_ble_eq_true rfl) ?_
  rintro ⟨P, m, w0, B, src, hsrc⟩ rfl rfl
  refine aw_seq ?_
  refine aw_reg [] [2, 3] [2, 3] [] ⟨[(2, none, .val (.one (.ptr 2 0))), (3, none, .val (.one (.ptr 3 0)))], [(2, .box [I a_a.Capacity, .sl (List.map GReservation.enc a_a.Reservations), .sl (List.map GUsage.enc a_a.Usages)]), (3, .box [I a_b.Capacity, .sl (List.map GReservation.enc a_b.Reservations), .sl (List.map GUsage.enc a_b.Usages)])]⟩ [] (by kernel_rfl) trivial (?_)
  refine andThen_normal ?_
  refine aw_seq ?_
  refine aw_seq ?_
  refine aw_reg [] [2, 3, 9] [2, 3] [] ⟨[(2, none, .val (.one (.ptr 2 0))), (3, none, .val (.one (.ptr 3 0))), (9, none, .val (.one (b1 ((a_a.Capacity : Int) != a_b.Capacity))))], [(2, .box [I a_a.Capacity, .sl (List.map GReservation.enc a_a.Reservations), .sl (List.map GUsage.enc a_a.Usages)]), (3, .box [I a_b.Capacity, .sl (List.map GReservation.enc a_b.Reservations), .sl (List.map GUsage.enc a_b.Usages)])]⟩ [] (by kernel_rfl) trivial (?_)
  refine andThen_normal ?_
  refine aw_cond ((a_a.Capacity : Int) != a_b.Capacity) (by kernel_rfl) (fun h1 => ?_) (fun h1 => ?_)
  · rw [h1, cond_true] at hs
    refine aw_seq ?_
    refine aw_reg [] [4] [] [] ⟨[(4, none, .val (.one (b1 false)))], []⟩ [] (by kernel_rfl) trivial (?_)
    refine andThen_normal ?_
    exact aw_ret (ret_thru (ends_data (ys := [.one (b1 false)]) (.inl rfl) (by kernel_rfl) (by kernel_rfl) hs))
  · rw [h1, cond_false] at hs
    refine aw_pick [2, 3] [2, 3] ⟨[(2, none, .val (.one (.ptr 2 0))), (3, none, .val (.one (.ptr 3 0)))], [(2, .box [I a_a.Capacity, .sl (List.map GReservation.enc a_a.Reservations), .sl (List.map GUsage.enc a_a.Usages)]), (3, .box [I a_b.Capacity, .sl (List.map GReservation.enc a_b.Reservations), .sl (List.map GUsage.enc a_b.Usages)])]⟩ (by kernel_rfl) ?_
    refine aw_skip ?_
    refine andThen_normal ?_
    refine aw_seq ?_
    refine aw_seq ?_
    refine aw_reg [(14, .call [.one (.sl (List.map GReservation.enc a_a.Reservations)), .one (.sl (List.map GReservation.enc a_b.Reservations))] [.one (b1 (l_eqReservationS a_a.Reservations a_b.Reservations))] (none))] [2, 3, 15] [2, 3] [] ⟨[(2, none, .val (.one (.ptr 2 0))), (3, none, .val (.one (.ptr 3 0))), (15, none, .val (.one (b1 (!(l_eqReservationS a_a.Reservations a_b.Reservations)))))], [(2, .box [I a_a.Capacity, .sl (List.map GReservation.enc a_a.Reservations), .sl (List.map GUsage.enc a_a.Usages)]), (3, .box [I a_b.Capacity, .sl (List.map GReservation.enc a_b.Reservations), .sl (List.map GUsage.enc a_b.Usages)])]⟩ [([.one (.sl (List.map GReservation.enc a_a.Reservations)), .one (.sl (List.map GReservation.enc a_b.Reservations))] : List AV) = [.one (.sl (List.map GReservation.enc a_a.Reservations)), .one (.sl (List.map GReservation.enc a_b.Reservations))], MeetsAt Try.prog 66 [.one (.sl (List.map GReservation.enc a_a.Reservations)), .one (.sl (List.map GReservation.enc a_b.Reservations))] [.one (b1 (l_eqReservationS a_a.Reservations a_b.Reservations))] (none)] (by kernel_rfl) ⟨rfl, (l_eqReservationS_ok a_a.Reservations a_b.Reservations), trivial⟩ (?_)
    refine andThen_normal ?_
    refine aw_cond (!(l_eqReservationS a_a.Reservations a_b.Reservations)) (by kernel_rfl) (fun h2 => ?_) (fun h2 => ?_)
    · rw [h2, cond_true] at hs
      refine aw_seq ?_
      refine aw_reg [] [4] [] [] ⟨[(4, none, .val (.one (b1 false)))], []⟩ [] (by kernel_rfl) trivial (?_)
      refine andThen_normal ?_
      exact aw_ret (ret_thru (ends_data (ys := [.one (b1 false)]) (.inl rfl) (by kernel_rfl) (by kernel_rfl) hs))
    · rw [h2, cond_false] at hs
      refine aw_pick [2, 3] [2, 3] ⟨[(2, none, .val (.one (.ptr 2 0))), (3, none, .val (.one (.ptr 3 0)))], [(2, .box [I a_a.Capacity, .sl (List.map GReservation.enc a_a.Reservations), .sl (List.map GUsage.enc a_a.Usages)]), (3, .box [I a_b.Capacity, .sl (List.map GReservation.enc a_b.Reservations), .sl (List.map GUsage.enc a_b.Usages)])]⟩ (by kernel_rfl) ?_
      refine aw_skip ?_
      refine andThen_normal ?_
      refine aw_seq ?_
      refine aw_seq ?_
      refine aw_reg [(20, .call [.one (.sl (List.map GUsage.enc a_a.Usages)), .one (.sl (List.map GUsage.enc a_b.Usages))] [.one (b1 (l_eqUsageS a_a.Usages a_b.Usages))] (none))] [21] [] [] ⟨[(21, none, .val (.one (b1 (!(l_eqUsageS a_a.Usages a_b.Usages)))))], []⟩ [([.one (.sl (List.map GUsage.enc a_a.Usages)), .one (.sl (List.map GUsage.enc a_b.Usages))] : List AV) = [.one (.sl (List.map GUsage.enc a_a.Usages)), .one (.sl (List.map GUsage.enc a_b.Usages))], MeetsAt Try.prog 67 [.one (.sl (List.map GUsage.enc a_a.Usages)), .one (.sl (List.map GUsage.enc a_b.Usages))] [.one (b1 (l_eqUsageS a_a.Usages a_b.Usages))] (none)] (by kernel_rfl) ⟨rfl, (l_eqUsageS_ok a_a.Usages a_b.Usages), trivial⟩ (?_)
      refine andThen_normal ?_
      refine aw_cond (!(l_eqUsageS a_a.Usages a_b.Usages)) (by kernel_rfl) (fun h3 => ?_) (fun h3 => ?_)
      · rw [h3, cond_true] at hs
        refine aw_seq ?_
        refine aw_reg [] [4] [] [] ⟨[(4, none, .val (.one (b1 false)))], []⟩ [] (by kernel_rfl) trivial (?_)
        refine andThen_normal ?_
        exact aw_ret (ret_thru (ends_data (ys := [.one (b1 false)]) (.inl rfl) (by kernel_rfl) (by kernel_rfl) hs))
      · rw [h3, cond_false] at hs
        refine aw_pick [] [] ⟨[], []⟩ (by kernel_rfl) ?_
        refine aw_skip ?_
        refine andThen_normal ?_
        refine aw_seq ?_
        refine aw_reg [] [4] [] [] ⟨[(4, none, .val (.one (b1 true)))], []⟩ [] (by kernel_rfl) trivial (?_)
        refine andThen_normal ?_
        exact aw_ret (ends_data (ys := [.one (b1 true)]) (.inl rfl) (by kernel_rfl) (by kernel_rfl) hs)

theorem l_toScheduler_ok (a_a : GScheduler) (hp : SmL a_a.enc) : MeetsAt Try.prog 40 [.agg (GScheduler.enc a_a)] [.agg (GScheduler.enc (l_toScheduler a_a))] (some [[(0, 0), (69, 5), (97, 4)]]) := by
  generalize hs : ([.agg (GScheduler.enc (l_toScheduler a_a))] : List AV) = outs
  unfold l_toScheduler at hs
  refine meets_fresh Try.func40 rfl (by kernel_rfl) (Nat.le_of_ble_eq_true rfl) ?_
  rintro ⟨P, m, w0, B, src, hsrc⟩ rfl rfl
  refine aw_seq ?_
  refine aw_reg [] [1, 2] [1, 2] [] ⟨[(1, none, .val (.one (.ptr 1 0))), (2, none, .val (.one (.ptr 2 0)))], [(1, .box [I a_a.Capacity, .sl (List.map GReservation.enc a_a.Reservations), .sl (List.map GUsage.enc a_a.Usages)]), (2, .box [I 0, .nil, .nil])]⟩ [] (by kernel_rfl) trivial (?_)
  refine andThen_normal ?_
  refine aw_seq ?_
  refine aw_reg [] [1, 2, 3] [1, 2, 3] [] ⟨[(1, none, .val (.one (.ptr 1 0))), (2, none, .val (.one (.ptr 2 0))), (3, none, .val (.one (.ptr 3 0)))], [(1, .box [I a_a.Capacity, .sl (List.map GReservation.enc a_a.Reservations), .sl (List.map GUsage.enc a_a.Usages)]), (2, .box [I 0, .nil, .nil]), (3, .box [I 0, .nil, .nil])]⟩ [] (by kernel_rfl) trivial (?_)
  refine andThen_normal ?_
  refine aw_seq ?_
  refine aw_reg [] [1, 2, 3] [1, 2, 3] [] ⟨[(1, none, .val (.one (.ptr 1 0))), (2, none, .val (.one (.ptr 2 0))), (3, none, .val (.one (.ptr 3 0)))], [(1, .box [I a_a.Capacity, .sl (List.map GReservation.enc a_a.Reservations), .sl (List.map GUsage.enc a_a.Usages)]), (2, .box [I 0, .nil, .nil]), (3, .box [I a_a.Capacity, .nil, .nil])]⟩ [] (by kernel_rfl) trivial (?_)
  refine andThen_normal ?_
  refine aw_seq ?_
  refine aw_reg [(9, .call [.one (.sl (List.map GReservation.enc a_a.Reservations))] [.one (.sl (List.map GReservation.enc (l_toReservationS a_a.Reservations)))] (some [[(69, 5)]]))] [1, 2, 3] [1, 2, 3, 1144] [] ⟨[(1, none, .val (.one (.ptr 1 0))), (2, none, .val (.one (.ptr 2 0))), (3, none, .val (.one (.ptr 3 0)))], [(1, .box [I a_a.Capacity, .sl (List.map GReservation.enc a_a.Reservations), .sl (List.map GUsage.enc a_a.Usages)]), (2, .box [I 0, .nil, .nil]), (3, .box [I a_a.Capacity, .row 1144, .nil]), (1144, .row 69 5 (List.map GReservation.enc (l_toReservationS a_a.Reservations)) true)]⟩ [([.one (.sl (List.map GReservation.enc a_a.Reservations))] : List AV) = [.one (.sl (List.map GReservation.enc a_a.Reservations))], MeetsAt Try.prog 75 [.one (.sl (List.map GReservation.enc a_a.Reservations))] [.one (.sl (List.map GReservation.enc (l_toReservationS a_a.Reservations)))] (some [[(69, 5)]])] (by kernel_rfl) ⟨rfl, (l_toReservationS_ok a_a.Reservations (by first | assumption | exact hp _ (by simp [GScheduler.enc]) | exact hf0 (by assumption) | exact hf1 (by assumption) (by assumption) | omega)), trivial⟩ (?_)
  refine andThen_normal ?_
  refine aw_seq ?_
  refine aw_reg [(13, .call [.one (.sl (List.map GUsage.enc a_a.Usages))] [.one (.sl (List.map GUsage.enc (l_toUsageS a_a.Usages)))] (some [[(97, 4)]]))] [2, 3] [2, 3, 1144, 1208] [] ⟨[(2, none, .val (.one (.ptr 2 0))), (3, none, .val (.one (.ptr 3 0)))], [(2, .box [I 0, .nil, .nil]), (3, .box [I a_a.Capacity, .row 1144, .row 1208]), (1144, .row 69 5 (List.map GReservation.enc (l_toReservationS a_a.Reservations)) true), (1208, .row 97 4 (List.map GUsage.enc (l_toUsageS a_a.Usages)) true)]⟩ [([.one (.sl (List.map GUsage.enc a_a.Usages))] : List AV) = [.one (.sl (List.map GUsage.enc a_a.Usages))], MeetsAt Try.prog 76 [.one (.sl (List.map GUsage.enc a_a.Usages))] [.one (.sl (List.map GUsage.enc (l_toUsageS a_a.Usages)))] (some [[(97, 4)]])] (by kernel_rfl) ⟨rfl, (l_toUsageS_ok a_a.Usages (by first | assumption | exact hp _ (by simp [GScheduler.enc]) | exact hf0 (by assumption) | exact hf1 (by assumption) (by assumption) | omega)), trivial⟩ (?_)
  refine andThen_normal ?_
  refine aw_seq ?_
  refine aw_reg [] [2] [2, 1144, 1208] [] ⟨[(2, none, .val (.one (.ptr 2 0)))], [(2, .box [I a_a.Capacity, .row 1144, .row 1208]), (1144, .row 69 5 (List.map GReservation.enc (l_toReservationS a_a.Reservations)) true), (1208, .row 97 4 (List.map GUsage.enc (l_toUsageS a_a.Usages)) true)]⟩ [] (by kernel_rfl) trivial (?_)
  refine andThen_normal ?_
  exact aw_ret (ends_fresh (ys := [.agg [I a_a.Capacity, .row 1144, .row 1208]]) (ids := [1144, 1208]) (.inl rfl) (by kernel_rfl) (by kernel_rfl) rfl hs)

theorem l_FnExactEqualSchedulers_ok (a_aA : GScheduler) (a_aB : GScheduler) (hw0 : WfL a_aA.enc) (hw1 : WfL a_aB.enc) : MeetsAt Try.prog 9 [.agg (GScheduler.enc a_aA), .agg (GScheduler.enc a_aB)] [.one (b1 (l_FnExactEqualSchedulers a_aA a_aB))] none := by
  generalize hs : ([.one (b1 (l_FnExactEqualSchedulers a_aA a_aB))] : List AV) = outs
  unfold l_FnExactEqualSchedulers at hs
  refine meets_data Try.func9 rfl (by kernel_rfl) (Nat.le_of_ble_eq_true rfl) ?_
  rintro ⟨P, m, w0, B, src, hsrc⟩ rfl rfl
  have hf0 := (sz_Scheduler a_aA 1048576 hw0 (by decide) (by decide)).sm
  have hf1 := sz_Scheduler2 a_aA a_aB hw0 hw1
  refine aw_seq ?_
  refine aw_reg [] [2, 3] [2, 3] [] ⟨[(2, none, .val (.one (.ptr 2 0))), (3, none, .val (.one (.ptr 3 0)))], [(2, .box [I a_aA.Capacity, .sl (List.map GReservation.enc a_aA.Reservations), .sl (List.map GUsage.enc a_aA.Usages)]), (3, .box [I a_aB.Capacity, .sl (List.map GReservation.enc a_aB.Reservations), .sl (List.map GUsage.enc a_aB.Usages)])]⟩ [] (by kernel_rfl) trivial (?_)
  refine andThen_normal ?_
  refine aw_seq ?_
  refine aw_reg [] [2, 3, 5] [2, 3] [] ⟨[(2, none, .val (.one (.ptr 2 0))), (3, none, .val (.one (.ptr 3 0))), (5, none, .val (.one (I 1048576)))], [(2, .box [I a_aA.Capacity, .sl (List.map GReservation.enc a_aA.Reservations), .sl (List.map GUsage.enc a_aA.Usages)]), (3, .box [I a_aB.Capacity, .sl (List.map GReservation.enc a_aB.Reservations), .sl (List.map GUsage.enc a_aB.Usages)])]⟩ [] (by kernel_rfl) trivial (?_)
  refine andThen_normal ?_
  refine aw_seq ?_
  refine aw_reg [(12, .call [.agg (GScheduler.enc a_aA), .one (I 1048576)] [.one (I (l_szScheduler a_aA 1048576))] (none))] [2, 3, 5] [2, 3] [] ⟨[(2, none, .val (.one (.ptr 2 0))), (3, none, .val (.one (.ptr 3 0))), (5, none, .val (.one (I (l_szScheduler a_aA 1048576))))], [(2, .box [I a_aA.Capacity, .sl (List.map GReservation.enc a_aA.Reservations), .sl (List.map GUsage.enc a_aA.Usages)]), (3, .box [I a_aB.Capacity, .sl (List.map GReservation.enc a_aB.Reservations), .sl (List.map GUsage.enc a_aB.Usages)])]⟩ [([.agg [I a_aA.Capacity, .sl (List.map GReservation.enc a_aA.Reservations), .sl (List.map GUsage.enc a_aA.Usages)], .one (I 1048576)] : List AV) = [.agg (GScheduler.enc a_aA), .one (I 1048576)], MeetsAt Try.prog 38 [.agg (GScheduler.enc a_aA), .one (I 1048576)] [.one (I (l_szScheduler a_aA 1048576))] (none)] (by kernel_rfl) ⟨(by first | rfl | simp only [Int.toNat_natCast, List.length_map, List.nil_append, List.map_append, List.map_cons, List.map_nil, List.map_take, List.map_drop, List.map_replicate]), (l_szScheduler_ok a_aA 1048576), trivial⟩ (?_)
  refine andThen_normal ?_
  refine aw_seq ?_
  refine aw_seq ?_
  refine aw_reg [] [2, 3, 5, 14] [2, 3] [] ⟨[(2, none, .val (.one (.ptr 2 0))), (3, none, .val (.one (.ptr 3 0))), (5, none, .val (.one (I (l_szScheduler a_aA 1048576)))), (14, none, .val (.one (b1 (decide (((l_szScheduler a_aA 1048576) : Int) < 0)))))], [(2, .box [I a_aA.Capacity, .sl (List.map GReservation.enc a_aA.Reservations), .sl (List.map GUsage.enc a_aA.Usages)]), (3, .box [I a_aB.Capacity, .sl (List.map GReservation.enc a_aB.Reservations), .sl (List.map GUsage.enc a_aB.Usages)])]⟩ [] (by kernel_rfl) trivial (?_)
  refine andThen_normal ?_
  refine aw_cond (decide (((l_szScheduler a_aA 1048576) : Int) < 0)) (by kernel_rfl) (fun h1 => ?_) (fun h1 => ?_)
  · rw [h1, cond_true] at hs
    refine aw_seq ?_
    refine aw_reg [] [4] [] [] ⟨[(4, none, .val (.one (b1 true)))], []⟩ [] (by kernel_rfl) trivial (?_)
    refine andThen_normal ?_
    exact aw_ret (ret_thru (ends_data (ys := [.one (b1 true)]) (.inl rfl) (by kernel_rfl) (by kernel_rfl) hs))
  · rw [h1, cond_false] at hs
    refine aw_pick [2, 3, 5] [2, 3] ⟨[(2, none, .val (.one (.ptr 2 0))), (3, none, .val (.one (.ptr 3 0))), (5, none, .val (.one (I (l_szScheduler a_aA 1048576))))], [(2, .box [I a_aA.Capacity, .sl (List.map GReservation.enc a_aA.Reservations), .sl (List.map GUsage.enc a_aA.Usages)]), (3, .box [I a_aB.Capacity, .sl (List.map GReservation.enc a_aB.Reservations), .sl (List.map GUsage.enc a_aB.Usages)])]⟩ (by kernel_rfl) ?_
    refine aw_skip ?_
    refine andThen_normal ?_
    refine aw_seq ?_
    refine aw_reg [(17, .call [.agg (GScheduler.enc a_aB), .one (I (l_szScheduler a_aA 1048576))] [.one (I (l_szScheduler a_aB (l_szScheduler a_aA 1048576)))] (none))] [2, 3, 5] [2, 3] [] ⟨[(2, none, .val (.one (.ptr 2 0))), (3, none, .val (.one (.ptr 3 0))), (5, none, .val (.one (I (l_szScheduler a_aB (l_szScheduler a_aA 1048576)))))], [(2, .box [I a_aA.Capacity, .sl (List.map GReservation.enc a_aA.Reservations), .sl (List.map GUsage.enc a_aA.Usages)]), (3, .box [I a_aB.Capacity, .sl (List.map GReservation.enc a_aB.Reservations), .sl (List.map GUsage.enc a_aB.Usages)])]⟩ [([.agg [I a_aB.Capacity, .sl (List.map GReservation.enc a_aB.Reservations), .sl (List.map GUsage.enc a_aB.Usages)], .one (I (l_szScheduler a_aA 1048576))] : List AV) = [.agg (GScheduler.enc a_aB), .one (I (l_szScheduler a_aA 1048576))], MeetsAt Try.prog 38 [.agg (GScheduler.enc a_aB), .one (I (l_szScheduler a_aA 1048576))] [.one (I (l_szScheduler a_aB (l_szScheduler a_aA 1048576)))] (none)] (by kernel_rfl) ⟨(by first | rfl | simp only [Int.toNat_natCast, List.length_map, List.nil_append, List.map_append, List.map_cons, List.map_nil, List.map_take, List.map_drop, List.map_replicate]), (l_szScheduler_ok a_aB (l_szScheduler a_aA 1048576)), trivial⟩ (?_)
    refine andThen_normal ?_
    refine aw_seq ?_
    refine aw_seq ?_
    refine aw_reg [] [2, 3, 19] [2, 3] [] ⟨[(2, none, .val (.one (.ptr 2 0))), (3, none, .val (.one (.ptr 3 0))), (19, none, .val (.one (b1 (decide (((l_szScheduler a_aB (l_szScheduler a_aA 1048576)) : Int) < 0)))))], [(2, .box [I a_aA.Capacity, .sl (List.map GReservation.enc a_aA.Reservations), .sl (List.map GUsage.enc a_aA.Usages)]), (3, .box [I a_aB.Capacity, .sl (List.map GReservation.enc a_aB.Reservations), .sl (List.map GUsage.enc a_aB.Usages)])]⟩ [] (by kernel_rfl) trivial (?_)
    refine andThen_normal ?_
    refine aw_cond (decide (((l_szScheduler a_aB (l_szScheduler a_aA 1048576)) : Int) < 0)) (by kernel_rfl) (fun h2 => ?_) (fun h2 => ?_)
    · rw [h2, cond_true] at hs
      refine aw_seq ?_
      refine aw_reg [] [4] [] [] ⟨[(4, none, .val (.one (b1 true)))], []⟩ [] (by kernel_rfl) trivial (?_)
      refine andThen_normal ?_
      exact aw_ret (ret_thru (ends_data (ys := [.one (b1 true)]) (.inl rfl) (by kernel_rfl) (by kernel_rfl) hs))
    · rw [h2, cond_false] at hs
      refine aw_pick [2, 3] [2, 3] ⟨[(2, none, .val (.one (.ptr 2 0))), (3, none, .val (.one (.ptr 3 0)))], [(2, .box [I a_aA.Capacity, .sl (List.map GReservation.enc a_aA.Reservations), .sl (List.map GUsage.enc a_aA.Usages)]), (3, .box [I a_aB.Capacity, .sl (List.map GReservation.enc a_aB.Reservations), .sl (List.map GUsage.enc a_aB.Usages)])]⟩ (by kernel_rfl) ?_
      refine aw_skip ?_
      refine andThen_normal ?_
      refine aw_seq ?_
      refine aw_drw [(21, .call [.agg (GScheduler.enc a_aA)] [.agg (GScheduler.enc (l_toScheduler a_aA))] (some [[(0, 0), (69, 5), (97, 4)]])), (23, .call [.agg (GScheduler.enc a_aB)] [.agg (GScheduler.enc (l_toScheduler a_aB))] (some [[(0, 0), (69, 5), (97, 4)]])), (24, .call [.agg (GScheduler.enc (l_toScheduler a_aA)), .agg (GScheduler.enc (l_toScheduler a_aB))] [.one (b1 (s_EqualSchedulers (l_toScheduler a_aA) (l_toScheduler a_aB)))] (none))] [0, 2, 1, 3, 4, 5] [2, 3, 6] [2, 3] [] ⟨[(2, none, .val (.one (.ptr 2 0))), (3, none, .val (.one (.ptr 3 0))), (6, none, .val (.one (b1 (s_EqualSchedulers (l_toScheduler a_aA) (l_toScheduler a_aB)))))], [(2, .box [I a_aA.Capacity, .sl (List.map GReservation.enc a_aA.Reservations), .sl (List.map GUsage.enc a_aA.Usages)]), (3, .box [I a_aB.Capacity, .sl (List.map GReservation.enc a_aB.Reservations), .sl (List.map GUsage.enc a_aB.Usages)])]⟩ [([.agg [I a_aA.Capacity, .sl (List.map GReservation.enc a_aA.Reservations), .sl (List.map GUsage.enc a_aA.Usages)]] : List AV) = [.agg (GScheduler.enc a_aA)], MeetsAt Try.prog 40 [.agg (GScheduler.enc a_aA)] [.agg (GScheduler.enc (l_toScheduler a_aA))] (some [[(0, 0), (69, 5), (97, 4)]]), ([.agg [I a_aB.Capacity, .sl (List.map GReservation.enc a_aB.Reservations), .sl (List.map GUsage.enc a_aB.Usages)]] : List AV) = [.agg (GScheduler.enc a_aB)], MeetsAt Try.prog 40 [.agg (GScheduler.enc a_aB)] [.agg (GScheduler.enc (l_toScheduler a_aB))] (some [[(0, 0), (69, 5), (97, 4)]]), ([.agg [I ((l_toScheduler a_aA).Capacity), .sl (List.map GReservation.enc ((l_toScheduler a_aA).Reservations)), .sl (List.map GUsage.enc ((l_toScheduler a_aA).Usages))], .agg [I ((l_toScheduler a_aB).Capacity), .sl (List.map GReservation.enc ((l_toScheduler a_aB).Reservations)), .sl (List.map GUsage.enc ((l_toScheduler a_aB).Usages))]] : List AV) = [.agg (GScheduler.enc (l_toScheduler a_aA)), .agg (GScheduler.enc (l_toScheduler a_aB))], MeetsAt Try.prog 39 [.agg (GScheduler.enc (l_toScheduler a_aA)), .agg (GScheduler.enc (l_toScheduler a_aB))] [.one (b1 (s_EqualSchedulers (l_toScheduler a_aA) (l_toScheduler a_aB)))] (none)] (by kernel_rfl) (by kernel_rfl) (Nat.le_of_ble_eq_true rfl) (by kernel_rfl) ⟨(by first | rfl | simp only [Int.toNat_natCast, List.length_map, List.nil_append, List.map_append, List.map_cons, List.map_nil, List.map_take, List.map_drop, List.map_replicate]), (l_toScheduler_ok a_aA (by first | assumption | exact hp _ (by simp [GScheduler.enc]) | exact hf0 (by assumption) | exact hf1 (by assumption) (by assumption) | omega)), (by first | rfl | simp only [Int.toNat_natCast, List.length_map, List.nil_append, List.map_append, List.map_cons, List.map_nil, List.map_take, List.map_drop, List.map_replicate]), (l_toScheduler_ok a_aB (by first | assumption | exact hp _ (by simp [GScheduler.enc]) | exact hf0 (by assumption) | exact hf1 (by assumption) (by assumption) | omega)), (by first | rfl | simp only [Int.toNat_natCast, List.length_map, List.nil_append, List.map_append, List.map_cons, List.map_nil, List.map_take, List.map_drop, List.map_replicate]), (s_EqualSchedulers_ok (l_toScheduler a_aA) (l_toScheduler a_aB)), trivial⟩ (?_)
      refine andThen_normal ?_
      refine aw_seq ?_
      refine aw_reg [(26, .call [.agg (GScheduler.enc a_aA)] [.agg (GScheduler.enc (l_toScheduler a_aA))] (some [[(0, 0), (69, 5), (97, 4)]]))] [2, 3, 6, 7] [2, 3, 7, 1417, 1418] [] ⟨[(2, none, .val (.one (.ptr 2 0))), (3, none, .val (.one (.ptr 3 0))), (6, none, .val (.one (b1 (s_EqualSchedulers (l_toScheduler a_aA) (l_toScheduler a_aB))))), (7, none, .val (.one (.ptr 7 0)))], [(2, .box [I a_aA.Capacity, .sl (List.map GReservation.enc a_aA.Reservations), .sl (List.map GUsage.enc a_aA.Usages)]), (3, .box [I a_aB.Capacity, .sl (List.map GReservation.enc a_aB.Reservations), .sl (List.map GUsage.enc a_aB.Usages)]), (7, .box [I ((l_toScheduler a_aA).Capacity), .row 1417, .row 1418]), (1417, .row 69 5 (List.map GReservation.enc ((l_toScheduler a_aA).Reservations)) true), (1418, .row 97 4 (List.map GUsage.enc ((l_toScheduler a_aA).Usages)) true)]⟩ [([.agg [I a_aA.Capacity, .sl (List.map GReservation.enc a_aA.Reservations), .sl (List.map GUsage.enc a_aA.Usages)]] : List AV) = [.agg (GScheduler.enc a_aA)], MeetsAt Try.prog 40 [.agg (GScheduler.enc a_aA)] [.agg (GScheduler.enc (l_toScheduler a_aA))] (some [[(0, 0), (69, 5), (97, 4)]])] (by kernel_rfl) ⟨(by first | rfl | simp only [Int.toNat_natCast, List.length_map, List.nil_append, List.map_append, List.map_cons, List.map_nil, List.map_take, List.map_drop, List.map_replicate]), (l_toScheduler_ok a_aA (by first | assumption | exact hp _ (by simp [GScheduler.enc]) | exact hf0 (by assumption) | exact hf1 (by assumption) (by assumption) | omega)), trivial⟩ (?_)
      refine andThen_normal ?_
      refine aw_seq ?_
      refine aw_reg [(28, .call [.agg (GScheduler.enc a_aB)] [.agg (GScheduler.enc (l_toScheduler a_aB))] (some [[(0, 0), (69, 5), (97, 4)]]))] [2, 3, 6, 7, 8] [2, 3, 7, 8, 1417, 1418, 1449, 1450] [] ⟨[(2, none, .val (.one (.ptr 2 0))), (3, none, .val (.one (.ptr 3 0))), (6, none, .val (.one (b1 (s_EqualSchedulers (l_toScheduler a_aA) (l_toScheduler a_aB))))), (7, none, .val (.one (.ptr 7 0))), (8, none, .val (.one (.ptr 8 0)))], [(2, .box [I a_aA.Capacity, .sl (List.map GReservation.enc a_aA.Reservations), .sl (List.map GUsage.enc a_aA.Usages)]), (3, .box [I a_aB.Capacity, .sl (List.map GReservation.enc a_aB.Reservations), .sl (List.map GUsage.enc a_aB.Usages)]), (7, .box [I ((l_toScheduler a_aA).Capacity), .row 1417, .row 1418]), (8, .box [I ((l_toScheduler a_aB).Capacity), .row 1449, .row 1450]), (1417, .row 69 5 (List.map GReservation.enc ((l_toScheduler a_aA).Reservations)) true), (1418, .row 97 4 (List.map GUsage.enc ((l_toScheduler a_aA).Usages)) true), (1449, .row 69 5 (List.map GReservation.enc ((l_toScheduler a_aB).Reservations)) true), (1450, .row 97 4 (List.map GUsage.enc ((l_toScheduler a_aB).Usages)) true)]⟩ [([.agg [I a_aB.Capacity, .sl (List.map GReservation.enc a_aB.Reservations), .sl (List.map GUsage.enc a_aB.Usages)]] : List AV) = [.agg (GScheduler.enc a_aB)], MeetsAt Try.prog 40 [.agg (GScheduler.enc a_aB)] [.agg (GScheduler.enc (l_toScheduler a_aB))] (some [[(0, 0), (69, 5), (97, 4)]])] (by kernel_rfl) ⟨(by first | rfl | simp only [Int.toNat_natCast, List.length_map, List.nil_append, List.map_append, List.map_cons, List.map_nil, List.map_take, List.map_drop, List.map_replicate]), (l_toScheduler_ok a_aB (by first | assumption | exact hp _ (by simp [GScheduler.enc]) | exact hf0 (by assumption) | exact hf1 (by assumption) (by assumption) | omega)), trivial⟩ (?_)
      refine andThen_normal ?_
      refine aw_seq ?_
      refine aw_reg [(31, .call [.agg (GScheduler.enc (l_toScheduler a_aA)), .agg (GScheduler.enc (l_toScheduler a_aB))] [.one (b1 (i_EqualSchedulers (l_toScheduler a_aA) (l_toScheduler a_aB)))] (none))] [2, 3, 6, 7, 8, 9] [2, 3, 7, 8, 1417, 1418, 1449, 1450] [] ⟨[(2, none, .val (.one (.ptr 2 0))), (3, none, .val (.one (.ptr 3 0))), (6, none, .val (.one (b1 (s_EqualSchedulers (l_toScheduler a_aA) (l_toScheduler a_aB))))), (7, none, .val (.one (.ptr 7 0))), (8, none, .val (.one (.ptr 8 0))), (9, none, .val (.one (b1 (i_EqualSchedulers (l_toScheduler a_aA) (l_toScheduler a_aB)))))], [(2, .box [I a_aA.Capacity, .sl (List.map GReservation.enc a_aA.Reservations), .sl (List.map GUsage.enc a_aA.Usages)]), (3, .box [I a_aB.Capacity, .sl (List.map GReservation.enc a_aB.Reservations), .sl (List.map GUsage.enc a_aB.Usages)]), (7, .box [I ((l_toScheduler a_aA).Capacity), .row 1417, .row 1418]), (8, .box [I ((l_toScheduler a_aB).Capacity), .row 1449, .row 1450]), (1417, .row 69 5 (List.map GReservation.enc ((l_toScheduler a_aA).Reservations)) true), (1418, .row 97 4 (List.map GUsage.enc ((l_toScheduler a_aA).Usages)) true), (1449, .row 69 5 (List.map GReservation.enc ((l_toScheduler a_aB).Reservations)) true), (1450, .row 97 4 (List.map GUsage.enc ((l_toScheduler a_aB).Usages)) true)]⟩ [([.agg [I ((l_toScheduler a_aA).Capacity), .sl (List.map GReservation.enc ((l_toScheduler a_aA).Reservations)), .sl (List.map GUsage.enc ((l_toScheduler a_aA).Usages))], .agg [I ((l_toScheduler a_aB).Capacity), .sl (List.map GReservation.enc ((l_toScheduler a_aB).Reservations)), .sl (List.map GUsage.enc ((l_toScheduler a_aB).Usages))]] : List AV) = [.agg (GScheduler.enc (l_toScheduler a_aA)), .agg (GScheduler.enc (l_toScheduler a_aB))], MeetsAt Try.prog 41 [.agg (GScheduler.enc (l_toScheduler a_aA)), .agg (GScheduler.enc (l_toScheduler a_aB))] [.one (b1 (i_EqualSchedulers (l_toScheduler a_aA) (l_toScheduler a_aB)))] (none)] (by kernel_rfl) ⟨(by first | rfl | simp only [Int.toNat_natCast, List.length_map, List.nil_append, List.map_append, List.map_cons, List.map_nil, List.map_take, List.map_drop, List.map_replicate]), (i_EqualSchedulers_ok (l_toScheduler a_aA) (l_toScheduler a_aB)), trivial⟩ (?_)
      refine andThen_normal ?_
      refine aw_seq ?_
      refine aw_seq ?_
      refine aw_reg [] [2, 3, 7, 8, 34] [2, 3, 7, 8, 1417, 1418, 1449, 1450] [] ⟨[(2, none, .val (.one (.ptr 2 0))), (3, none, .val (.one (.ptr 3 0))), (7, none, .val (.one (.ptr 7 0))), (8, none, .val (.one (.ptr 8 0))), (34, none, .val (.one (b1 (!((i_EqualSchedulers (l_toScheduler a_aA) (l_toScheduler a_aB)) == (s_EqualSchedulers (l_toScheduler a_aA) (l_toScheduler a_aB)))))))], [(2, .box [I a_aA.Capacity, .sl (List.map GReservation.enc a_aA.Reservations), .sl (List.map GUsage.enc a_aA.Usages)]), (3, .box [I a_aB.Capacity, .sl (List.map GReservation.enc a_aB.Reservations), .sl (List.map GUsage.enc a_aB.Usages)]), (7, .box [I ((l_toScheduler a_aA).Capacity), .row 1417, .row 1418]), (8, .box [I ((l_toScheduler a_aB).Capacity), .row 1449, .row 1450]), (1417, .row 69 5 (List.map GReservation.enc ((l_toScheduler a_aA).Reservations)) true), (1418, .row 97 4 (List.map GUsage.enc ((l_toScheduler a_aA).Usages)) true), (1449, .row 69 5 (List.map GReservation.enc ((l_toScheduler a_aB).Reservations)) true), (1450, .row 97 4 (List.map GUsage.enc ((l_toScheduler a_aB).Usages)) true)]⟩ [] (by kernel_rfl) trivial (?_)
      refine andThen_normal ?_
      refine aw_cond (!((i_EqualSchedulers (l_toScheduler a_aA) (l_toScheduler a_aB)) == (s_EqualSchedulers (l_toScheduler a_aA) (l_toScheduler a_aB)))) (by kernel_rfl) (fun h3 => ?_) (fun h3 => ?_)
      · rw [h3, cond_true] at hs
        refine aw_seq ?_
        refine aw_reg [] [4] [] [] ⟨[(4, none, .val (.one (b1 false)))], []⟩ [] (by kernel_rfl) trivial (?_)
        refine andThen_normal ?_
        exact aw_ret (ret_thru (ends_data (ys := [.one (b1 false)]) (.inl rfl) (by kernel_rfl) (by kernel_rfl) hs))
      · rw [h3, cond_false] at hs
        refine aw_pick [2, 3, 7, 8] [2, 3, 7, 8, 1417, 1418, 1449, 1450] ⟨[(2, none, .val (.one (.ptr 2 0))), (3, none, .val (.one (.ptr 3 0))), (7, none, .val (.one (.ptr 7 0))), (8, none, .val (.one (.ptr 8 0)))], [(2, .box [I a_aA.Capacity, .sl (List.map GReservation.enc a_aA.Reservations), .sl (List.map GUsage.enc a_aA.Usages)]), (3, .box [I a_aB.Capacity, .sl (List.map GReservation.enc a_aB.Reservations), .sl (List.map GUsage.enc a_aB.Usages)]), (7, .box [I ((l_toScheduler a_aA).Capacity), .row 1417, .row 1418]), (8, .box [I ((l_toScheduler a_aB).Capacity), .row 1449, .row 1450]), (1417, .row 69 5 (List.map GReservation.enc ((l_toScheduler a_aA).Reservations)) true), (1418, .row 97 4 (List.map GUsage.enc ((l_toScheduler a_aA).Usages)) true), (1449, .row 69 5 (List.map GReservation.enc ((l_toScheduler a_aB).Reservations)) true), (1450, .row 97 4 (List.map GUsage.enc ((l_toScheduler a_aB).Usages)) true)]⟩ (by kernel_rfl) ?_
        refine aw_skip ?_
        refine andThen_normal ?_
        refine aw_seq ?_
        refine aw_seq ?_
        refine aw_drw [(37, .call [.agg (GScheduler.enc a_aA)] [.agg (GScheduler.enc (l_toScheduler a_aA))] (some [[(0, 0), (69, 5), (97, 4)]])), (38, .call [.agg (GScheduler.enc (l_toScheduler a_aA)), .agg (GScheduler.enc (l_toScheduler a_aA))] [.one (b1 (l_eqScheduler (l_toScheduler a_aA) (l_toScheduler a_aA)))] (none))] [0, 1, 2, 3, 4] [3, 8, 39] [3, 8, 1449, 1450] [] ⟨[(3, none, .val (.one (.ptr 3 0))), (8, none, .val (.one (.ptr 8 0))), (39, none, .val (.one (b1 (!(l_eqScheduler (l_toScheduler a_aA) (l_toScheduler a_aA))))))], [(3, .box [I a_aB.Capacity, .sl (List.map GReservation.enc a_aB.Reservations), .sl (List.map GUsage.enc a_aB.Usages)]), (8, .box [I ((l_toScheduler a_aB).Capacity), .row 1449, .row 1450]), (1449, .row 69 5 (List.map GReservation.enc ((l_toScheduler a_aB).Reservations)) true), (1450, .row 97 4 (List.map GUsage.enc ((l_toScheduler a_aB).Usages)) true)]⟩ [([.agg [I a_aA.Capacity, .sl (List.map GReservation.enc a_aA.Reservations), .sl (List.map GUsage.enc a_aA.Usages)]] : List AV) = [.agg (GScheduler.enc a_aA)], MeetsAt Try.prog 40 [.agg (GScheduler.enc a_aA)] [.agg (GScheduler.enc (l_toScheduler a_aA))] (some [[(0, 0), (69, 5), (97, 4)]]), ([.agg [I ((l_toScheduler a_aA).Capacity), .sl (List.map GReservation.enc ((l_toScheduler a_aA).Reservations)), .sl (List.map GUsage.enc ((l_toScheduler a_aA).Usages))], .agg [I ((l_toScheduler a_aA).Capacity), .sl (List.map GReservation.enc ((l_toScheduler a_aA).Reservations)), .sl (List.map GUsage.enc ((l_toScheduler a_aA).Usages))]] : List AV) = [.agg (GScheduler.enc (l_toScheduler a_aA)), .agg (GScheduler.enc (l_toScheduler a_aA))], MeetsAt Try.prog 35 [.agg (GScheduler.enc (l_toScheduler a_aA)), .agg (GScheduler.enc (l_toScheduler a_aA))] [.one (b1 (l_eqScheduler (l_toScheduler a_aA) (l_toScheduler a_aA)))] (none)] (by kernel_rfl) (by kernel_rfl) (Nat.le_of_ble_eq_true rfl) (by kernel_rfl) ⟨(by first | rfl | simp only [Int.toNat_natCast, List.length_map, List.nil_append, List.map_append, List.map_cons, List.map_nil, List.map_take, List.map_drop, List.map_replicate]), (l_toScheduler_ok a_aA (by first | assumption | exact hp _ (by simp [GScheduler.enc]) | exact hf0 (by assumption) | exact hf1 (by assumption) (by assumption) | omega)), (by first | rfl | simp only [Int.toNat_natCast, List.length_map, List.nil_append, List.map_append, List.map_cons, List.map_nil, List.map_take, List.map_drop, List.map_replicate]), (l_eqScheduler_ok (l_toScheduler a_aA) (l_toScheduler a_aA)), trivial⟩ (?_)
        refine andThen_normal ?_
        refine aw_cond (!(l_eqScheduler (l_toScheduler a_aA) (l_toScheduler a_aA))) (by kernel_rfl) (fun h4 => ?_) (fun h4 => ?_)
        · rw [h4, cond_true] at hs
          refine aw_seq ?_
          refine aw_reg [] [4] [] [] ⟨[(4, none, .val (.one (b1 false)))], []⟩ [] (by kernel_rfl) trivial (?_)
          refine andThen_normal ?_
          exact aw_ret (ret_thru (ends_data (ys := [.one (b1 false)]) (.inl rfl) (by kernel_rfl) (by kernel_rfl) hs))
        · rw [h4, cond_false] at hs
          refine aw_pick [3, 8] [3, 8, 1449, 1450] ⟨[(3, none, .val (.one (.ptr 3 0))), (8, none, .val (.one (.ptr 8 0)))], [(3, .box [I a_aB.Capacity, .sl (List.map GReservation.enc a_aB.Reservations), .sl (List.map GUsage.enc a_aB.Usages)]), (8, .box [I ((l_toScheduler a_aB).Capacity), .row 1449, .row 1450]), (1449, .row 69 5 (List.map GReservation.enc ((l_toScheduler a_aB).Reservations)) true), (1450, .row 97 4 (List.map GUsage.enc ((l_toScheduler a_aB).Usages)) true)]⟩ (by kernel_rfl) ?_
          refine aw_skip ?_
          refine andThen_normal ?_
          refine aw_seq ?_
          refine aw_seq ?_
          refine aw_drw [(42, .call [.agg (GScheduler.enc a_aB)] [.agg (GScheduler.enc (l_toScheduler a_aB))] (some [[(0, 0), (69, 5), (97, 4)]])), (43, .call [.agg (GScheduler.enc (l_toScheduler a_aB)), .agg (GScheduler.enc (l_toScheduler a_aB))] [.one (b1 (l_eqScheduler (l_toScheduler a_aB) (l_toScheduler a_aB)))] (none))] [0, 1, 2, 3, 4] [44] [] [] ⟨[(44, none, .val (.one (b1 (!(l_eqScheduler (l_toScheduler a_aB) (l_toScheduler a_aB))))))], []⟩ [([.agg [I a_aB.Capacity, .sl (List.map GReservation.enc a_aB.Reservations), .sl (List.map GUsage.enc a_aB.Usages)]] : List AV) = [.agg (GScheduler.enc a_aB)], MeetsAt Try.prog 40 [.agg (GScheduler.enc a_aB)] [.agg (GScheduler.enc (l_toScheduler a_aB))] (some [[(0, 0), (69, 5), (97, 4)]]), ([.agg [I ((l_toScheduler a_aB).Capacity), .sl (List.map GReservation.enc ((l_toScheduler a_aB).Reservations)), .sl (List.map GUsage.enc ((l_toScheduler a_aB).Usages))], .agg [I ((l_toScheduler a_aB).Capacity), .sl (List.map GReservation.enc ((l_toScheduler a_aB).Reservations)), .sl (List.map GUsage.enc ((l_toScheduler a_aB).Usages))]] : List AV) = [.agg (GScheduler.enc (l_toScheduler a_aB)), .agg (GScheduler.enc (l_toScheduler a_aB))], MeetsAt Try.prog 35 [.agg (GScheduler.enc (l_toScheduler a_aB)), .agg (GScheduler.enc (l_toScheduler a_aB))] [.one (b1 (l_eqScheduler (l_toScheduler a_aB) (l_toScheduler a_aB)))] (none)] (by kernel_rfl) (by kernel_rfl) (Nat.le_of_ble_eq_true rfl) (by kernel_rfl) ⟨(by first | rfl | simp only [Int.toNat_natCast, List.length_map, List.nil_append, List.map_append, List.map_cons, List.map_nil, List.map_take, List.map_drop, List.map_replicate]), (l_toScheduler_ok a_aB (by first | assumption | exact hp _ (by simp [GScheduler.enc]) | exact hf0 (by assumption) | exact hf1 (by assumption) (by assumption) | omega)), (by first | rfl | simp only [Int.toNat_natCast, List.length_map, List.nil_append, List.map_append, List.map_cons, List.map_nil, List.map_take, List.map_drop, List.map_replicate]), (l_eqScheduler_ok (l_toScheduler a_aB) (l_toScheduler a_aB)), trivial⟩ (?_)
          refine andThen_normal ?_
          refine aw_cond (!(l_eqScheduler (l_toScheduler a_aB) (l_toScheduler a_aB))) (by kernel_rfl) (fun h5 => ?_) (fun h5 => ?_)
          · rw [h5, cond_true] at hs
            refine aw_seq ?_
            refine aw_reg [] [4] [] [] ⟨[(4, none, .val (.one (b1 false)))], []⟩ [] (by kernel_rfl) trivial (?_)
            refine andThen_normal ?_
            exact aw_ret (ret_thru (ends_data (ys := [.one (b1 false)]) (.inl rfl) (by kernel_rfl) (by kernel_rfl) hs))
          · rw [h5, cond_false] at hs
            refine aw_pick [] [] ⟨[], []⟩ (by kernel_rfl) ?_
            refine aw_skip ?_
            refine andThen_normal ?_
            refine aw_seq ?_
            refine aw_reg [] [4] [] [] ⟨[(4, none, .val (.one (b1 true)))], []⟩ [] (by kernel_rfl) trivial (?_)
            refine andThen_normal ?_
            exact aw_ret (ends_data (ys := [.one (b1 true)]) (.inl rfl) (by kernel_rfl) (by kernel_rfl) hs)

end Go.Proofs.Ytdmiboplfgmgiaa
