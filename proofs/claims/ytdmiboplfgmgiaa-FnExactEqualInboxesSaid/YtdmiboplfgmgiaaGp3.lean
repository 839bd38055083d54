/-
  Each function that law FnExactValidInbox reaches computes what its definition says. Printed by a program. Conditions: those of each theorem.
-/
import Derived.Test.YtdmiboplfgmgiaaGl
import Derived.Test.YtdmiboplfgmgiaaProg
import Derived.Test.YtdmiboplfgmgiaaGp1
set_option linter.unusedVariables false
set_option linter.unusedSimpArgs false
set_option maxRecDepth 100000
namespace Go.Proofs.Ytdmiboplfgmgiaa
open Go.Ab
theorem l_eqByteS_ok (a_a : List Int) (a_b : List Int) : MeetsAt Try.prog 128 [.one (.sl (List.map encU a_a)), .one (.sl (List.map encU a_b))] [.one (b1 (l_eqByteS a_a a_b))] none := by
  generalize hs : ([.one (b1 (l_eqByteS a_a a_b))] : List AV) = outs
  unfold l_eqByteS at hs
  refine meets_data Try.func128 rfl (by kernel_rfl) (Nat.le_of_ble_eq_true rfl) ?_
  rintro ⟨P, m, w0, B, src, hsrc⟩ rfl rfl
  refine aw_seq ?_
  refine aw_reg [] [0, 1] [] [] ⟨[(0, none, .val (.one (.sl (List.map encU a_a)))), (1, none, .val (.one (.sl (List.map encU a_b))))], []⟩ [] (by kernel_rfl) trivial (?_)
  refine andThen_normal ?_
  refine aw_seq ?_
  refine aw_seq ?_
  refine aw_reg [] [0, 1, 10] [] [] ⟨[(0, none, .val (.one (.sl (List.map encU a_a)))), (1, none, .val (.one (.sl (List.map encU a_b)))), (10, none, .val (.one (b1 ((((List.map encU a_a).length : Int) : Int) != ((List.map encU a_b).length : Int)))))], []⟩ [] (by kernel_rfl) trivial (q_cast ⟨[(0, none, .val (.one (.sl (List.map encU a_a)))), (1, none, .val (.one (.sl (List.map encU a_b)))), (10, none, .val (.one (b1 (((a_a.length : Int) : Int) != (a_b.length : Int)))))], []⟩ (by simp only [Int.toNat_natCast, List.length_map, List.nil_append, List.map_append, List.map_cons, List.map_nil, List.map_take, List.map_drop, List.map_replicate, encI, encS, encU]) ?_)
  refine andThen_normal ?_
  refine aw_cond (((a_a.length : Int) : Int) != (a_b.length : Int)) (by kernel_rfl) (fun h1 => ?_) (fun h1 => ?_)
  · rw [h1, cond_true] at hs
    refine aw_seq ?_
    refine aw_reg [] [4] [] [] ⟨[(4, none, .val (.one (b1 false)))], []⟩ [] (by kernel_rfl) trivial (?_)
    refine andThen_normal ?_
    exact aw_ret (ret_thru (ends_data (ys := [.one (b1 false)]) (.inl rfl) (by kernel_rfl) (by kernel_rfl) hs))
  · rw [h1, cond_false] at hs
    refine aw_pick [0, 1] [] ⟨[(0, none, .val (.one (.sl (List.map encU a_a)))), (1, none, .val (.one (.sl (List.map encU a_b))))], []⟩ (by kernel_rfl) ?_
    refine aw_skip ?_
    refine andThen_normal ?_
    refine aw_seq ?_
    refine aw_seq ?_
    refine aw_reg [] [0, 1, 5] [] [] ⟨[(0, none, .val (.one (.sl (List.map encU a_a)))), (1, none, .val (.one (.sl (List.map encU a_b)))), (5, none, .val (.one (I 0)))], []⟩ [] (by kernel_rfl) trivial (?_)
    refine andThen_normal ?_
    refine aw_block ?_
    refine aw_len 0 (List.map encU a_a) (by kernel_rfl) (fun hl1 => ?_)
    rw [List.length_map] at hl1
    generalize hz1 : l_eqByteS_l1 a_b a_a 0 = z1 at hs
    refine aw_loop (fun m st => ∃ (k3 : Nat), m = a_a.length - k3 ∧ k3 ≤ a_a.length ∧ l_eqByteS_l1 a_b (a_a.drop k3) k3 = z1 ∧ st = ⟨[(0, none, .val (.one (.sl (List.map encU a_a)))), (1, none, .val (.one (.sl (List.map encU a_b)))), (5, none, .val (.one (I (k3 : Int))))], []⟩) (a_a.length) ⟨0, rfl, Nat.zero_le _, hz1, by kernel_rfl⟩ ?_
    clear hz1
    rintro m s ⟨k3, rfl, hk1, hz1, rfl⟩
    rcases drop_cases a_a k3 hk1 with ⟨hd1, rfl⟩ | ⟨x4, hd1, hx1, hlt1⟩
    · rw [hd1, l_eqByteS_l1] at hz1
      refine aw_seq ?_
      refine aw_seq ?_
      refine aw_reg [] [0, 1, 5, 14] [] [] ⟨[(0, none, .val (.one (.sl (List.map encU a_a)))), (1, none, .val (.one (.sl (List.map encU a_b)))), (5, none, .val (.one (I (a_a.length : Int)))), (14, none, .val (.one (b1 (decide (((a_a.length : Int) : Int) < ((List.map encU a_a).length : Int))))))], []⟩ [] (by kernel_rfl) trivial (q_cast ⟨[(0, none, .val (.one (.sl (List.map encU a_a)))), (1, none, .val (.one (.sl (List.map encU a_b)))), (5, none, .val (.one (I (a_a.length : Int)))), (14, none, .val (.one (b1 (decide (((a_a.length : Int) : Int) < (a_a.length : Int))))))], []⟩ (by simp only [Int.toNat_natCast, List.length_map, List.nil_append, List.map_append, List.map_cons, List.map_nil, List.map_take, List.map_drop, List.map_replicate, encI, encS, encU]) ?_)
      refine andThen_normal ?_
      refine aw_cond (decide (((a_a.length : Int) : Int) < (a_a.length : Int))) (by kernel_rfl) (fun h => absurd h (by simp)) (fun _ => ?_)
      refine aw_pick [] [] ⟨[], []⟩ (by kernel_rfl) ?_
      refine aw_exit (exit_thru (exit_thru (exit_here 0 (?_))))
      rw [← hz1, Sum.elim_inr] at hs
      refine andThen_normal ?_
      refine aw_seq ?_
      refine aw_reg [] [4] [] [] ⟨[(4, none, .val (.one (b1 true)))], []⟩ [] (by kernel_rfl) trivial (?_)
      refine andThen_normal ?_
      exact aw_ret (ends_data (ys := [.one (b1 true)]) (.inl rfl) (by kernel_rfl) (by kernel_rfl) hs)
    · rw [hd1, l_eqByteS_l1] at hz1
      refine aw_seq ?_
      refine aw_seq ?_
      refine aw_reg [] [0, 1, 5, 14] [] [] ⟨[(0, none, .val (.one (.sl (List.map encU a_a)))), (1, none, .val (.one (.sl (List.map encU a_b)))), (5, none, .val (.one (I (k3 : Int)))), (14, none, .val (.one (b1 (decide (((k3 : Int) : Int) < ((List.map encU a_a).length : Int))))))], []⟩ [] (by kernel_rfl) trivial (q_cast ⟨[(0, none, .val (.one (.sl (List.map encU a_a)))), (1, none, .val (.one (.sl (List.map encU a_b)))), (5, none, .val (.one (I (k3 : Int)))), (14, none, .val (.one (b1 (decide (((k3 : Int) : Int) < (a_a.length : Int))))))], []⟩ (by simp only [Int.toNat_natCast, List.length_map, List.nil_append, List.map_append, List.map_cons, List.map_nil, List.map_take, List.map_drop, List.map_replicate, encI, encS, encU]) ?_)
      refine andThen_normal ?_
      refine aw_cond (decide (((k3 : Int) : Int) < (a_a.length : Int))) (by kernel_rfl) (fun _ => ?_) (fun h => absurd h (by simp; omega))
      refine aw_pick [0, 1, 5] [] ⟨[(0, none, .val (.one (.sl (List.map encU a_a)))), (1, none, .val (.one (.sl (List.map encU a_b)))), (5, none, .val (.one (I (k3 : Int))))], []⟩ (by kernel_rfl) ?_
      refine aw_skip ?_
      refine andThen_normal ?_
      refine aw_seq ?_
      refine aw_block ?_
      refine aw_seq ?_
      refine aw_drw [(19, .elem (encU x4)), (23, .elem (encU (a_b.getD k3 0)))] [0, 1, 2, 3, 4, 5, 6, 7, 8] [0, 1, 5, 25] [] [] ⟨[(0, none, .val (.one (.sl (List.map encU a_a)))), (1, none, .val (.one (.sl (List.map encU a_b)))), (5, none, .val (.one (I (k3 : Int)))), (25, none, .val (.one (b1 ((x4 : Int) != (a_b.getD k3 0)))))], []⟩ [(0 : Int) ≤ (k3 : Int), (List.map encU a_a)[((k3 : Int) : Int).toNat]? = some (encU x4), (0 : Int) ≤ (k3 : Int), (List.map encU a_b)[((k3 : Int) : Int).toNat]? = some (encU (a_b.getD k3 0))] (by kernel_rfl) (by kernel_rfl) (Nat.le_of_ble_eq_true rfl) (by kernel_rfl) ⟨(by first | omega | (simp only [List.length_map, List.length_append, List.length_cons, List.length_nil, List.length_replicate, List.length_set, decide_eq_true_eq, Bool.and_eq_true, Bool.not_eq_true', decide_eq_false_iff_not, Bool.cond_false_right, Bool.not_eq_false', Bool.cond_true_left, Bool.or_eq_false_iff, Bool.or_eq_true, bne_eq_false_iff_eq, bne_iff_ne, beq_iff_eq, beq_eq_false_iff_ne, ne_eq, Int.not_lt, Int.not_le, ge_iff_le, gt_iff_lt, maxLen] at *; omega)), (el_map hx1), (by first | omega | (simp only [List.length_map, List.length_append, List.length_cons, List.length_nil, List.length_replicate, List.length_set, decide_eq_true_eq, Bool.and_eq_true, Bool.not_eq_true', decide_eq_false_iff_not, Bool.cond_false_right, Bool.not_eq_false', Bool.cond_true_left, Bool.or_eq_false_iff, Bool.or_eq_true, bne_eq_false_iff_eq, bne_iff_ne, beq_iff_eq, beq_eq_false_iff_ne, ne_eq, Int.not_lt, Int.not_le, ge_iff_le, gt_iff_lt, maxLen] at *; omega)), (el_getD (n := (k3 : Int)) (by first | omega | (simp only [List.length_map, List.length_append, List.length_cons, List.length_nil, List.length_replicate, List.length_set, decide_eq_true_eq, Bool.and_eq_true, Bool.not_eq_true', decide_eq_false_iff_not, Bool.cond_false_right, Bool.not_eq_false', Bool.cond_true_left, Bool.or_eq_false_iff, Bool.or_eq_true, bne_eq_false_iff_eq, bne_iff_ne, beq_iff_eq, beq_eq_false_iff_ne, ne_eq, Int.not_lt, Int.not_le, ge_iff_le, gt_iff_lt, maxLen] at *; omega)) (by first | omega | (simp only [List.length_map, List.length_append, List.length_cons, List.length_nil, List.length_replicate, List.length_set, decide_eq_true_eq, Bool.and_eq_true, Bool.not_eq_true', decide_eq_false_iff_not, Bool.cond_false_right, Bool.not_eq_false', Bool.cond_true_left, Bool.or_eq_false_iff, Bool.or_eq_true, bne_eq_false_iff_eq, bne_iff_ne, beq_iff_eq, beq_eq_false_iff_ne, ne_eq, Int.not_lt, Int.not_le, ge_iff_le, gt_iff_lt, maxLen] at *; omega))), trivial⟩ (?_)
      refine andThen_normal ?_
      refine aw_cond ((x4 : Int) != (a_b.getD k3 0)) (by kernel_rfl) (fun h5 => ?_) (fun h5 => ?_)
      · rw [h5, cond_true] at hz1
        refine aw_seq ?_
        refine aw_reg [] [4] [] [] ⟨[(4, none, .val (.one (b1 false)))], []⟩ [] (by kernel_rfl) trivial (?_)
        refine andThen_normal ?_
        rw [← hz1, Sum.elim_inl] at hs
        exact aw_ret (ret_blk (ret_thru (ret_thru (ret_blk (ret_thru (ends_data (ys := [.one (b1 false)]) (.inl rfl) (by kernel_rfl) (by kernel_rfl) hs))))))
      · rw [h5, cond_false] at hz1
        refine aw_pick [0, 1, 5] [] ⟨[(0, none, .val (.one (.sl (List.map encU a_a)))), (1, none, .val (.one (.sl (List.map encU a_b)))), (5, none, .val (.one (I (k3 : Int))))], []⟩ (by kernel_rfl) ?_
        refine aw_skip ?_
        refine blk_normal ?_
        refine andThen_normal ?_
        refine aw_reg [] [0, 1, 5] [] [] ⟨[(0, none, .val (.one (.sl (List.map encU a_a)))), (1, none, .val (.one (.sl (List.map encU a_b)))), (5, none, .val (.one (I (wr ((k3 : Int) + 1)))))], []⟩ [] (by kernel_rfl) trivial (?_)
        exact ⟨a_a.length - (k3 + 1), by omega, k3 + 1, rfl, by omega, hz1, by rw [show wr ((k3 : Int) + 1) = ((k3 + 1 : Nat) : Int) from wrap_succ (by omega)]⟩

theorem l_szByteS_ok (a_a : List Int) (a_left : Int) : MeetsAt Try.prog 129 [.one (.sl (List.map encU a_a)), .one (I a_left)] [.one (I (l_szByteS a_a a_left))] none := by
  generalize hs : ([.one (I (l_szByteS a_a a_left))] : List AV) = outs
  unfold l_szByteS at hs
  refine meets_data Try.func129 rfl (by kernel_rfl) (Nat.le_of_ble_eq_true rfl) ?_
  rintro ⟨P, m, w0, B, src, hsrc⟩ rfl rfl
  refine aw_seq ?_
  refine aw_reg [] [0, 1] [] [] ⟨[(0, none, .val (.one (.sl (List.map encU a_a)))), (1, none, .val (.one (I a_left)))], []⟩ [] (by kernel_rfl) trivial (?_)
  refine andThen_normal ?_
  refine aw_seq ?_
  refine aw_reg [] [1] [] [] ⟨[(1, none, .val (.one (I (wr (a_left - ((List.map encU a_a).length : Int))))))], []⟩ [] (by kernel_rfl) trivial (q_cast ⟨[(1, none, .val (.one (I (wr (a_left - (a_a.length : Int))))))], []⟩ (by simp only [Int.toNat_natCast, List.length_map, List.nil_append, List.map_append, List.map_cons, List.map_nil, List.map_take, List.map_drop, List.map_replicate, encI, encS, encU]) ?_)
  refine andThen_normal ?_
  refine aw_seq ?_
  refine aw_seq ?_
  refine aw_reg [] [1, 10] [] [] ⟨[(1, none, .val (.one (I (wr (a_left - (a_a.length : Int)))))), (10, none, .val (.one (b1 (decide (((wr (a_left - (a_a.length : Int))) : Int) < 0)))))], []⟩ [] (by kernel_rfl) trivial (?_)
  refine andThen_normal ?_
  refine aw_cond (decide (((wr (a_left - (a_a.length : Int))) : Int) < 0)) (by kernel_rfl) (fun h1 => ?_) (fun h1 => ?_)
  · rw [h1, cond_true] at hs
    refine aw_seq ?_
    refine aw_reg [] [4] [] [] ⟨[(4, none, .val (.one (I (-1))))], []⟩ [] (by kernel_rfl) trivial (?_)
    refine andThen_normal ?_
    exact aw_ret (ret_thru (ends_data (ys := [.one (I (-1))]) (.inl rfl) (by kernel_rfl) (by kernel_rfl) hs))
  · rw [h1, cond_false] at hs
    refine aw_pick [1] [] ⟨[(1, none, .val (.one (I (wr (a_left - (a_a.length : Int))))))], []⟩ (by kernel_rfl) ?_
    refine aw_skip ?_
    refine andThen_normal ?_
    refine aw_seq ?_
    refine aw_reg [] [4] [] [] ⟨[(4, none, .val (.one (I (wr (a_left - (a_a.length : Int))))))], []⟩ [] (by kernel_rfl) trivial (?_)
    refine andThen_normal ?_
    exact aw_ret (ends_data (ys := [.one (I (wr (a_left - (a_a.length : Int))))]) (.inl rfl) (by kernel_rfl) (by kernel_rfl) hs)

theorem l_toByteS_ok (a_a : List Int) (hp : T.Sm (.sl (a_a.map encU))) : MeetsAt Try.prog 130 [.one (.sl (List.map encU a_a))] [.one (.sl (List.map encU (l_toByteS a_a)))] (some [[(5, 1)]]) := by
  generalize hs : ([.one (.sl (List.map encU (l_toByteS a_a)))] : List AV) = outs
  unfold l_toByteS at hs
  refine meets_fresh Try.func130 rfl (by kernel_rfl) (Nat.le_of_ble_eq_true rfl) ?_
  rintro ⟨P, m, w0, B, src, hsrc⟩ rfl rfl
  have hf0 := hp.len
  refine aw_seq ?_
  refine aw_reg [] [0] [] [] ⟨[(0, none, .val (.one (.sl (List.map encU a_a))))], []⟩ [] (by kernel_rfl) trivial (?_)
  refine andThen_normal ?_
  refine aw_seq ?_
  refine aw_reg [] [0, 3] [7] [] ⟨[(0, none, .val (.one (.sl (List.map encU a_a)))), (3, none, .val (.one (.row 7)))], [(7, .row 5 1 (List.replicate (((List.map encU a_a).length : Int)).toNat [U 0]) true)]⟩ [((List.map encU a_a).length : Int) = ((List.map encU a_a).length : Int), (0 : Int) ≤ ((List.map encU a_a).length : Int), ((1 : Nat) : Int) * ((List.map encU a_a).length : Int) ≤ 281474976710656, ((List.map encU a_a).length : Int) ≤ 4611686018427387904] (by kernel_rfl) ⟨rfl, (by first | omega | (simp only [List.length_map, List.length_append, List.length_cons, List.length_nil, List.length_replicate, List.length_set, decide_eq_true_eq, Bool.and_eq_true, Bool.not_eq_true', decide_eq_false_iff_not, Bool.cond_false_right, Bool.not_eq_false', Bool.cond_true_left, Bool.or_eq_false_iff, Bool.or_eq_true, bne_eq_false_iff_eq, bne_iff_ne, beq_iff_eq, beq_eq_false_iff_ne, ne_eq, Int.not_lt, Int.not_le, ge_iff_le, gt_iff_lt, maxLen] at *; omega)), (by first | omega | (simp only [List.length_map, List.length_append, List.length_cons, List.length_nil, List.length_replicate, List.length_set, decide_eq_true_eq, Bool.and_eq_true, Bool.not_eq_true', decide_eq_false_iff_not, Bool.cond_false_right, Bool.not_eq_false', Bool.cond_true_left, Bool.or_eq_false_iff, Bool.or_eq_true, bne_eq_false_iff_eq, bne_iff_ne, beq_iff_eq, beq_eq_false_iff_ne, ne_eq, Int.not_lt, Int.not_le, ge_iff_le, gt_iff_lt, maxLen] at *; omega)), (by first | omega | (simp only [List.length_map, List.length_append, List.length_cons, List.length_nil, List.length_replicate, List.length_set, decide_eq_true_eq, Bool.and_eq_true, Bool.not_eq_true', decide_eq_false_iff_not, Bool.cond_false_right, Bool.not_eq_false', Bool.cond_true_left, Bool.or_eq_false_iff, Bool.or_eq_true, bne_eq_false_iff_eq, bne_iff_ne, beq_iff_eq, beq_eq_false_iff_ne, ne_eq, Int.not_lt, Int.not_le, ge_iff_le, gt_iff_lt, maxLen] at *; omega)), trivial⟩ (q_cast ⟨[(0, none, .val (.one (.sl (List.map encU a_a)))), (3, none, .val (.one (.row 7)))], [(7, .row 5 1 (List.map encU (List.replicate a_a.length 0)) true)]⟩ (by simp only [Int.toNat_natCast, List.length_map, List.nil_append, List.map_append, List.map_cons, List.map_nil, List.map_take, List.map_drop, List.map_replicate, encI, encS, encU]) ?_)
  refine andThen_normal ?_
  refine aw_seq ?_
  refine aw_seq ?_
  refine aw_reg [] [0, 3, 4] [7] [] ⟨[(0, none, .val (.one (.sl (List.map encU a_a)))), (3, none, .val (.one (.row 7))), (4, none, .val (.one (I 0)))], [(7, .row 5 1 (List.map encU (List.replicate a_a.length 0)) true)]⟩ [] (by kernel_rfl) trivial (?_)
  refine andThen_normal ?_
  refine aw_block ?_
  refine aw_len 0 (List.map encU a_a) (by kernel_rfl) (fun hl1 => ?_)
  rw [List.length_map] at hl1
  generalize hz1 : l_toByteS_l1  a_a 0 (List.replicate a_a.length 0) = z1 at hs
  refine aw_loop (fun m st => ∃ (k3 : Nat) (c2 : List Int), m = a_a.length - k3 ∧ k3 ≤ a_a.length ∧ c2.length = (List.replicate a_a.length 0).length ∧ l_toByteS_l1  (a_a.drop k3) k3 c2 = z1 ∧ st = ⟨[(0, none, .val (.one (.sl (List.map encU a_a)))), (3, none, .val (.one (.row 7))), (4, none, .val (.one (I (k3 : Int))))], [(7, .row 5 1 (List.map encU c2) true)]⟩) (a_a.length) ⟨0, List.replicate a_a.length 0, rfl, Nat.zero_le _, rfl, hz1, by kernel_rfl⟩ ?_
  clear hz1
  rintro m s ⟨k3, c2, rfl, hk1, hic2, hz1, rfl⟩
  rcases drop_cases a_a k3 hk1 with ⟨hd1, rfl⟩ | ⟨x4, hd1, hx1, hlt1⟩
  · rw [hd1, l_toByteS_l1] at hz1
    refine aw_seq ?_
    refine aw_seq ?_
    refine aw_reg [] [0, 3, 4, 11] [7] [] ⟨[(0, none, .val (.one (.sl (List.map encU a_a)))), (3, none, .val (.one (.row 7))), (4, none, .val (.one (I (a_a.length : Int)))), (11, none, .val (.one (b1 (decide (((a_a.length : Int) : Int) < ((List.map encU a_a).length : Int))))))], [(7, .row 5 1 (List.map encU c2) true)]⟩ [] (by kernel_rfl) trivial (q_cast ⟨[(0, none, .val (.one (.sl (List.map encU a_a)))), (3, none, .val (.one (.row 7))), (4, none, .val (.one (I (a_a.length : Int)))), (11, none, .val (.one (b1 (decide (((a_a.length : Int) : Int) < (a_a.length : Int))))))], [(7, .row 5 1 (List.map encU c2) true)]⟩ (by simp only [Int.toNat_natCast, List.length_map, List.nil_append, List.map_append, List.map_cons, List.map_nil, List.map_take, List.map_drop, List.map_replicate, encI, encS, encU]) ?_)
    refine andThen_normal ?_
    refine aw_cond (decide (((a_a.length : Int) : Int) < (a_a.length : Int))) (by kernel_rfl) (fun h => absurd h (by simp)) (fun _ => ?_)
    refine aw_pick [3] [7] ⟨[(3, none, .val (.one (.row 7)))], [(7, .row 5 1 (List.map encU c2) true)]⟩ (by kernel_rfl) ?_
    refine aw_exit (exit_thru (exit_thru (exit_here 0 (?_))))
    rw [← hz1] at hs
    refine andThen_normal ?_
    refine aw_seq ?_
    refine aw_reg [] [2] [7] [] ⟨[(2, none, .val (.one (.row 7)))], [(7, .row 5 1 (List.map encU c2) true)]⟩ [] (by kernel_rfl) trivial (?_)
    refine andThen_normal ?_
    exact aw_ret (ends_fresh (ys := [.one (.row 7)]) (ids := [7]) (.inl rfl) (by kernel_rfl) (by kernel_rfl) rfl hs)
  · rw [hd1, l_toByteS_l1] at hz1
    refine aw_seq ?_
    refine aw_seq ?_
    refine aw_reg [] [0, 3, 4, 11] [7] [] ⟨[(0, none, .val (.one (.sl (List.map encU a_a)))), (3, none, .val (.one (.row 7))), (4, none, .val (.one (I (k3 : Int)))), (11, none, .val (.one (b1 (decide (((k3 : Int) : Int) < ((List.map encU a_a).length : Int))))))], [(7, .row 5 1 (List.map encU c2) true)]⟩ [] (by kernel_rfl) trivial (q_cast ⟨[(0, none, .val (.one (.sl (List.map encU a_a)))), (3, none, .val (.one (.row 7))), (4, none, .val (.one (I (k3 : Int)))), (11, none, .val (.one (b1 (decide (((k3 : Int) : Int) < (a_a.length : Int))))))], [(7, .row 5 1 (List.map encU c2) true)]⟩ (by simp only [Int.toNat_natCast, List.length_map, List.nil_append, List.map_append, List.map_cons, List.map_nil, List.map_take, List.map_drop, List.map_replicate, encI, encS, encU]) ?_)
    refine andThen_normal ?_
    refine aw_cond (decide (((k3 : Int) : Int) < (a_a.length : Int))) (by kernel_rfl) (fun _ => ?_) (fun h => absurd h (by simp; omega))
    refine aw_pick [0, 3, 4] [7] ⟨[(0, none, .val (.one (.sl (List.map encU a_a)))), (3, none, .val (.one (.row 7))), (4, none, .val (.one (I (k3 : Int))))], [(7, .row 5 1 (List.map encU c2) true)]⟩ (by kernel_rfl) ?_
    refine aw_skip ?_
    refine andThen_normal ?_
    refine aw_seq ?_
    refine aw_block ?_
    refine aw_reg [(18, .elem (encU x4))] [0, 3, 4] [7] [] ⟨[(0, none, .val (.one (.sl (List.map encU a_a)))), (3, none, .val (.one (.row 7))), (4, none, .val (.one (I (k3 : Int))))], [(7, .row 5 1 (setEl 1 (List.map encU c2) (((k3 : Int)).toNat) 0 [U x4]) true)]⟩ [(0 : Int) ≤ (k3 : Int), (List.map encU a_a)[((k3 : Int) : Int).toNat]? = some (encU x4), (0 : Int) ≤ (k3 : Int), (k3 : Int) < ((List.map encU c2).length : Int), (((k3 : Int)).toNat) < (List.map encU c2).length] (by kernel_rfl) ⟨(by first | omega | (simp only [List.length_map, List.length_append, List.length_cons, List.length_nil, List.length_replicate, List.length_set, decide_eq_true_eq, Bool.and_eq_true, Bool.not_eq_true', decide_eq_false_iff_not, Bool.cond_false_right, Bool.not_eq_false', Bool.cond_true_left, Bool.or_eq_false_iff, Bool.or_eq_true, bne_eq_false_iff_eq, bne_iff_ne, beq_iff_eq, beq_eq_false_iff_ne, ne_eq, Int.not_lt, Int.not_le, ge_iff_le, gt_iff_lt, maxLen] at *; omega)), (el_map hx1), (by first | omega | (simp only [List.length_map, List.length_append, List.length_cons, List.length_nil, List.length_replicate, List.length_set, decide_eq_true_eq, Bool.and_eq_true, Bool.not_eq_true', decide_eq_false_iff_not, Bool.cond_false_right, Bool.not_eq_false', Bool.cond_true_left, Bool.or_eq_false_iff, Bool.or_eq_true, bne_eq_false_iff_eq, bne_iff_ne, beq_iff_eq, beq_eq_false_iff_ne, ne_eq, Int.not_lt, Int.not_le, ge_iff_le, gt_iff_lt, maxLen] at *; omega)), (by first | omega | (simp only [List.length_map, List.length_append, List.length_cons, List.length_nil, List.length_replicate, List.length_set, decide_eq_true_eq, Bool.and_eq_true, Bool.not_eq_true', decide_eq_false_iff_not, Bool.cond_false_right, Bool.not_eq_false', Bool.cond_true_left, Bool.or_eq_false_iff, Bool.or_eq_true, bne_eq_false_iff_eq, bne_iff_ne, beq_iff_eq, beq_eq_false_iff_ne, ne_eq, Int.not_lt, Int.not_le, ge_iff_le, gt_iff_lt, maxLen] at *; omega)), (by first | omega | (simp only [List.length_map, List.length_append, List.length_cons, List.length_nil, List.length_replicate, List.length_set, decide_eq_true_eq, Bool.and_eq_true, Bool.not_eq_true', decide_eq_false_iff_not, Bool.cond_false_right, Bool.not_eq_false', Bool.cond_true_left, Bool.or_eq_false_iff, Bool.or_eq_true, bne_eq_false_iff_eq, bne_iff_ne, beq_iff_eq, beq_eq_false_iff_ne, ne_eq, Int.not_lt, Int.not_le, ge_iff_le, gt_iff_lt, maxLen] at *; omega)), trivial⟩ (q_cast ⟨[(0, none, .val (.one (.sl (List.map encU a_a)))), (3, none, .val (.one (.row 7))), (4, none, .val (.one (I (k3 : Int))))], [(7, .row 5 1 (List.map encU (c2.set k3 x4)) true)]⟩ (by (try rw [setEl_set (en := encU) (k := 1) (ts := [U x4]) x4 rfl rfl]) <;> (try simp only [Int.toNat_natCast, List.length_map, List.nil_append, List.map_append, List.map_cons, List.map_nil, List.map_take, List.map_drop, List.map_replicate, encI, encS, encU])) ?_)
    refine blk_normal ?_
    refine andThen_normal ?_
    refine aw_reg [] [0, 3, 4] [7] [] ⟨[(0, none, .val (.one (.sl (List.map encU a_a)))), (3, none, .val (.one (.row 7))), (4, none, .val (.one (I (wr ((k3 : Int) + 1)))))], [(7, .row 5 1 (List.map encU (c2.set k3 x4)) true)]⟩ [] (by kernel_rfl) trivial (?_)
    exact ⟨a_a.length - (k3 + 1), by omega, k3 + 1, c2.set k3 x4, rfl, by omega, by simp only [List.length_set, List.length_modify]; assumption, hz1, by rw [show wr ((k3 : Int) + 1) = ((k3 + 1 : Nat) : Int) from wrap_succ (by omega)]⟩

theorem s_ValidInbox_ok (a_x : GInbox) : MeetsAt Try.prog 23 [.agg (GInbox.enc a_x)] [.one (b1 (s_ValidInbox a_x))] none := by
  generalize hs : ([.one (b1 (s_ValidInbox a_x))] : List AV) = outs
  unfold s_ValidInbox at hs
  refine meets_data Try.func23 rfl (by kernel_rfl) (Nat.le_of_ble_eq_true rfl) ?_
  rintro ⟨P, m, w0, B, src, hsrc⟩ rfl rfl
  refine aw_seq ?_
  refine aw_reg [] [1] [1] [] ⟨[(1, none, .val (.one (.ptr 1 0)))], [(1, .box [I a_x.AS, I a_x.Source, I a_x.Next, .sl (List.map GMessage.enc a_x.Received)])]⟩ [] (by kernel_rfl) trivial (?_)
  refine andThen_normal ?_
  refine aw_seq ?_
  refine aw_seq ?_
  refine aw_reg [] [1, 3] [1] [] ⟨[(1, none, .val (.one (.ptr 1 0))), (3, none, .val (.one (I 0)))], [(1, .box [I a_x.AS, I a_x.Source, I a_x.Next, .sl (List.map GMessage.enc a_x.Received)])]⟩ [] (by kernel_rfl) trivial (?_)
  refine andThen_normal ?_
  refine aw_block ?_
  refine aw_lenBox 1 3 _ (List.map GMessage.enc a_x.Received) rfl rfl (fun hl1 => ?_)
  rw [List.length_map] at hl1
  generalize hz1 : s_ValidInbox_l1  a_x.Received 0 = z1 at hs
  refine aw_loop (fun m st => ∃ (k2 : Nat), m = a_x.Received.length - k2 ∧ k2 ≤ a_x.Received.length ∧ s_ValidInbox_l1  (a_x.Received.drop k2) k2 = z1 ∧ st = ⟨[(1, none, .val (.one (.ptr 1 0))), (3, none, .val (.one (I (k2 : Int))))], [(1, .box [I a_x.AS, I a_x.Source, I a_x.Next, .sl (List.map GMessage.enc a_x.Received)])]⟩) (a_x.Received.length) ⟨0, rfl, Nat.zero_le _, hz1, by kernel_rfl⟩ ?_
  clear hz1
  rintro m s ⟨k2, rfl, hk1, hz1, rfl⟩
  rcases drop_cases a_x.Received k2 hk1 with ⟨hd1, rfl⟩ | ⟨x3, hd1, hx1, hlt1⟩
  · rw [hd1, s_ValidInbox_l1] at hz1
    refine aw_seq ?_
    refine aw_seq ?_
    refine aw_reg [] [1, 3, 8] [1] [] ⟨[(1, none, .val (.one (.ptr 1 0))), (3, none, .val (.one (I (a_x.Received.length : Int)))), (8, none, .val (.one (b1 (decide (((a_x.Received.length : Int) : Int) < ((List.map GMessage.enc a_x.Received).length : Int))))))], [(1, .box [I a_x.AS, I a_x.Source, I a_x.Next, .sl (List.map GMessage.enc a_x.Received)])]⟩ [] (by kernel_rfl) trivial (q_cast ⟨[(1, none, .val (.one (.ptr 1 0))), (3, none, .val (.one (I (a_x.Received.length : Int)))), (8, none, .val (.one (b1 (decide (((a_x.Received.length : Int) : Int) < (a_x.Received.length : Int))))))], [(1, .box [I a_x.AS, I a_x.Source, I a_x.Next, .sl (List.map GMessage.enc a_x.Received)])]⟩ (by simp only [Int.toNat_natCast, List.length_map, List.nil_append, List.map_append, List.map_cons, List.map_nil, List.map_take, List.map_drop, List.map_replicate, encI, encS, encU]) ?_)
    refine andThen_normal ?_
    refine aw_cond (decide (((a_x.Received.length : Int) : Int) < (a_x.Received.length : Int))) (by kernel_rfl) (fun h => absurd h (by simp)) (fun _ => ?_)
    refine aw_pick [1] [1] ⟨[(1, none, .val (.one (.ptr 1 0)))], [(1, .box [I a_x.AS, I a_x.Source, I a_x.Next, .sl (List.map GMessage.enc a_x.Received)])]⟩ (by kernel_rfl) ?_
    refine aw_exit (exit_thru (exit_thru (exit_here 0 (?_))))
    rw [← hz1, Sum.elim_inr] at hs
    refine andThen_normal ?_
    refine aw_seq ?_
    refine aw_reg [(21, .call [.one (I a_x.AS), .one (I 0), .one (I 7)] [.one (b1 (s_l1In a_x.AS 0 7))] (none)), (25, .call [.one (I a_x.Source), .one (I 0), .one (I 7)] [.one (b1 (s_l1In a_x.Source 0 7))] (none))] [2] [] [] ⟨[(2, none, .val (.one (b1 (cond (cond (cond (cond (s_l1In a_x.AS 0 7) (s_l1In a_x.Source 0 7) false) ((a_x.AS : Int) != a_x.Source) false) ((a_x.Next : Int) == ((List.map GMessage.enc a_x.Received).length : Int)) false) (decide ((a_x.Next : Int) ≤ 20)) false))))], []⟩ [([.one (I a_x.AS), .one (I 0), .one (I 7)] : List AV) = [.one (I a_x.AS), .one (I 0), .one (I 7)], MeetsAt Try.prog 57 [.one (I a_x.AS), .one (I 0), .one (I 7)] [.one (b1 (s_l1In a_x.AS 0 7))] (none), (s_l1In a_x.AS 0 7) = true → (s_l1In a_x.AS 0 7) = true, (s_l1In a_x.AS 0 7) = true → ([.one (I a_x.Source), .one (I 0), .one (I 7)] : List AV) = [.one (I a_x.Source), .one (I 0), .one (I 7)], (s_l1In a_x.AS 0 7) = true → MeetsAt Try.prog 57 [.one (I a_x.Source), .one (I 0), .one (I 7)] [.one (b1 (s_l1In a_x.Source 0 7))] (none), (s_l1In a_x.AS 0 7) = true → (s_l1In a_x.AS 0 7) = true, (s_l1In a_x.AS 0 7) = true → (s_l1In a_x.AS 0 7) = true, (cond (s_l1In a_x.AS 0 7) (s_l1In a_x.Source 0 7) false) = true → (cond (s_l1In a_x.AS 0 7) (s_l1In a_x.Source 0 7) false) = true, (cond (s_l1In a_x.AS 0 7) (s_l1In a_x.Source 0 7) false) = true → (cond (s_l1In a_x.AS 0 7) (s_l1In a_x.Source 0 7) false) = true, (cond (s_l1In a_x.AS 0 7) (s_l1In a_x.Source 0 7) false) = true → (cond (s_l1In a_x.AS 0 7) (s_l1In a_x.Source 0 7) false) = true, (cond (s_l1In a_x.AS 0 7) (s_l1In a_x.Source 0 7) false) = true → (cond (s_l1In a_x.AS 0 7) (s_l1In a_x.Source 0 7) false) = true, (cond (s_l1In a_x.AS 0 7) (s_l1In a_x.Source 0 7) false) = true → (cond (s_l1In a_x.AS 0 7) (s_l1In a_x.Source 0 7) false) = true, (cond (cond (s_l1In a_x.AS 0 7) (s_l1In a_x.Source 0 7) false) ((a_x.AS : Int) != a_x.Source) false) = true → (cond (cond (s_l1In a_x.AS 0 7) (s_l1In a_x.Source 0 7) false) ((a_x.AS : Int) != a_x.Source) false) = true, (cond (cond (s_l1In a_x.AS 0 7) (s_l1In a_x.Source 0 7) false) ((a_x.AS : Int) != a_x.Source) false) = true → (cond (cond (s_l1In a_x.AS 0 7) (s_l1In a_x.Source 0 7) false) ((a_x.AS : Int) != a_x.Source) false) = true, (cond (cond (s_l1In a_x.AS 0 7) (s_l1In a_x.Source 0 7) false) ((a_x.AS : Int) != a_x.Source) false) = true → (cond (cond (s_l1In a_x.AS 0 7) (s_l1In a_x.Source 0 7) false) ((a_x.AS : Int) != a_x.Source) false) = true, (cond (cond (s_l1In a_x.AS 0 7) (s_l1In a_x.Source 0 7) false) ((a_x.AS : Int) != a_x.Source) false) = true → (cond (cond (s_l1In a_x.AS 0 7) (s_l1In a_x.Source 0 7) false) ((a_x.AS : Int) != a_x.Source) false) = true, (cond (cond (s_l1In a_x.AS 0 7) (s_l1In a_x.Source 0 7) false) ((a_x.AS : Int) != a_x.Source) false) = true → (cond (cond (s_l1In a_x.AS 0 7) (s_l1In a_x.Source 0 7) false) ((a_x.AS : Int) != a_x.Source) false) = true, (cond (cond (s_l1In a_x.AS 0 7) (s_l1In a_x.Source 0 7) false) ((a_x.AS : Int) != a_x.Source) false) = true → (cond (cond (s_l1In a_x.AS 0 7) (s_l1In a_x.Source 0 7) false) ((a_x.AS : Int) != a_x.Source) false) = true, (cond (cond (cond (s_l1In a_x.AS 0 7) (s_l1In a_x.Source 0 7) false) ((a_x.AS : Int) != a_x.Source) false) ((a_x.Next : Int) == ((List.map GMessage.enc a_x.Received).length : Int)) false) = true → (cond (cond (cond (s_l1In a_x.AS 0 7) (s_l1In a_x.Source 0 7) false) ((a_x.AS : Int) != a_x.Source) false) ((a_x.Next : Int) == ((List.map GMessage.enc a_x.Received).length : Int)) false) = true, (cond (cond (cond (s_l1In a_x.AS 0 7) (s_l1In a_x.Source 0 7) false) ((a_x.AS : Int) != a_x.Source) false) ((a_x.Next : Int) == ((List.map GMessage.enc a_x.Received).length : Int)) false) = true → (cond (cond (cond (s_l1In a_x.AS 0 7) (s_l1In a_x.Source 0 7) false) ((a_x.AS : Int) != a_x.Source) false) ((a_x.Next : Int) == ((List.map GMessage.enc a_x.Received).length : Int)) false) = true, (cond (cond (cond (s_l1In a_x.AS 0 7) (s_l1In a_x.Source 0 7) false) ((a_x.AS : Int) != a_x.Source) false) ((a_x.Next : Int) == ((List.map GMessage.enc a_x.Received).length : Int)) false) = true → (cond (cond (cond (s_l1In a_x.AS 0 7) (s_l1In a_x.Source 0 7) false) ((a_x.AS : Int) != a_x.Source) false) ((a_x.Next : Int) == ((List.map GMessage.enc a_x.Received).length : Int)) false) = true] (by kernel_rfl) ⟨rfl, (s_l1In_ok a_x.AS 0 7), (fun hg => (by first | assumption | simp_all)), (fun _ => rfl), (fun hg => (s_l1In_ok a_x.Source 0 7)), (fun hg => (by first | assumption | simp_all)), (by first | exact id | (intro h; rw [h]; rfl) | (intros; simp_all)), (fun hg => (by first | assumption | simp_all)), (fun hg => (by first | assumption | simp_all)), (fun hg => (by first | assumption | simp_all)), (fun hg => (by first | assumption | simp_all)), (by first | exact id | (intro h; rw [h]; rfl) | (intros; simp_all)), (fun hg => (by first | assumption | simp_all)), (fun hg => (by first | assumption | simp_all)), (fun hg => (by first | assumption | simp_all)), (fun hg => (by first | assumption | simp_all)), (fun hg => (by first | assumption | simp_all)), (by first | exact id | (intro h; rw [h]; rfl) | (intros; simp_all)), (fun hg => (by first | assumption | simp_all)), (fun hg => (by first | assumption | simp_all)), (by first | exact id | (intro h; rw [h]; rfl) | (intros; simp_all)), trivial⟩ (q_cast ⟨[(2, none, .val (.one (b1 (cond (cond (cond (cond (s_l1In a_x.AS 0 7) (s_l1In a_x.Source 0 7) false) ((a_x.AS : Int) != a_x.Source) false) ((a_x.Next : Int) == (a_x.Received.length : Int)) false) (decide ((a_x.Next : Int) ≤ 20)) false))))], []⟩ (by simp only [Int.toNat_natCast, List.length_map, List.nil_append, List.map_append, List.map_cons, List.map_nil, List.map_take, List.map_drop, List.map_replicate, encI, encS, encU]) ?_)
    refine andThen_normal ?_
    exact aw_ret (ends_data (ys := [.one (b1 (cond (cond (cond (cond (s_l1In a_x.AS 0 7) (s_l1In a_x.Source 0 7) false) ((a_x.AS : Int) != a_x.Source) false) ((a_x.Next : Int) == (a_x.Received.length : Int)) false) (decide ((a_x.Next : Int) ≤ 20)) false))]) (.inl rfl) (by kernel_rfl) (by kernel_rfl) hs)
  · rw [hd1, s_ValidInbox_l1] at hz1
    refine aw_seq ?_
    refine aw_seq ?_
    refine aw_reg [] [1, 3, 8] [1] [] ⟨[(1, none, .val (.one (.ptr 1 0))), (3, none, .val (.one (I (k2 : Int)))), (8, none, .val (.one (b1 (decide (((k2 : Int) : Int) < ((List.map GMessage.enc a_x.Received).length : Int))))))], [(1, .box [I a_x.AS, I a_x.Source, I a_x.Next, .sl (List.map GMessage.enc a_x.Received)])]⟩ [] (by kernel_rfl) trivial (q_cast ⟨[(1, none, .val (.one (.ptr 1 0))), (3, none, .val (.one (I (k2 : Int)))), (8, none, .val (.one (b1 (decide (((k2 : Int) : Int) < (a_x.Received.length : Int))))))], [(1, .box [I a_x.AS, I a_x.Source, I a_x.Next, .sl (List.map GMessage.enc a_x.Received)])]⟩ (by simp only [Int.toNat_natCast, List.length_map, List.nil_append, List.map_append, List.map_cons, List.map_nil, List.map_take, List.map_drop, List.map_replicate, encI, encS, encU]) ?_)
    refine andThen_normal ?_
    refine aw_cond (decide (((k2 : Int) : Int) < (a_x.Received.length : Int))) (by kernel_rfl) (fun _ => ?_) (fun h => absurd h (by simp; omega))
    refine aw_pick [1, 3] [1] ⟨[(1, none, .val (.one (.ptr 1 0))), (3, none, .val (.one (I (k2 : Int))))], [(1, .box [I a_x.AS, I a_x.Source, I a_x.Next, .sl (List.map GMessage.enc a_x.Received)])]⟩ (by kernel_rfl) ?_
    refine aw_skip ?_
    refine andThen_normal ?_
    refine aw_seq ?_
    refine aw_block ?_
    refine aw_seq ?_
    refine aw_reg [(14, .elem (GMessage.enc x3))] [1, 3, 18] [1] [] ⟨[(1, none, .val (.one (.ptr 1 0))), (3, none, .val (.one (I (k2 : Int)))), (18, none, .val (.one (b1 (decide ((((List.map encU x3.Data).length : Int) : Int) > 40)))))], [(1, .box [I a_x.AS, I a_x.Source, I a_x.Next, .sl (List.map GMessage.enc a_x.Received)])]⟩ [(0 : Int) ≤ (k2 : Int), (List.map GMessage.enc a_x.Received)[((k2 : Int) : Int).toNat]? = some (GMessage.enc x3)] (by kernel_rfl) ⟨(by first | omega | (simp only [List.length_map, List.length_append, List.length_cons, List.length_nil, List.length_replicate, List.length_set, decide_eq_true_eq, Bool.and_eq_true, Bool.not_eq_true', decide_eq_false_iff_not, Bool.cond_false_right, Bool.not_eq_false', Bool.cond_true_left, Bool.or_eq_false_iff, Bool.or_eq_true, bne_eq_false_iff_eq, bne_iff_ne, beq_iff_eq, beq_eq_false_iff_ne, ne_eq, Int.not_lt, Int.not_le, ge_iff_le, gt_iff_lt, maxLen] at *; omega)), (el_map hx1), trivial⟩ (q_cast ⟨[(1, none, .val (.one (.ptr 1 0))), (3, none, .val (.one (I (k2 : Int)))), (18, none, .val (.one (b1 (decide (((x3.Data.length : Int) : Int) > 40)))))], [(1, .box [I a_x.AS, I a_x.Source, I a_x.Next, .sl (List.map GMessage.enc a_x.Received)])]⟩ (by simp only [Int.toNat_natCast, List.length_map, List.nil_append, List.map_append, List.map_cons, List.map_nil, List.map_take, List.map_drop, List.map_replicate, encI, encS, encU]) ?_)
    refine andThen_normal ?_
    refine aw_cond (decide (((x3.Data.length : Int) : Int) > 40)) (by kernel_rfl) (fun h4 => ?_) (fun h4 => ?_)
    · rw [h4, cond_true] at hz1
      refine aw_seq ?_
      refine aw_reg [] [2] [] [] ⟨[(2, none, .val (.one (b1 false)))], []⟩ [] (by kernel_rfl) trivial (?_)
      refine andThen_normal ?_
      rw [← hz1, Sum.elim_inl] at hs
      exact aw_ret (ret_blk (ret_thru (ret_thru (ret_blk (ret_thru (ends_data (ys := [.one (b1 false)]) (.inl rfl) (by kernel_rfl) (by kernel_rfl) hs))))))
    · rw [h4, cond_false] at hz1
      refine aw_pick [1, 3] [1] ⟨[(1, none, .val (.one (.ptr 1 0))), (3, none, .val (.one (I (k2 : Int))))], [(1, .box [I a_x.AS, I a_x.Source, I a_x.Next, .sl (List.map GMessage.enc a_x.Received)])]⟩ (by kernel_rfl) ?_
      refine aw_skip ?_
      refine blk_normal ?_
      refine andThen_normal ?_
      refine aw_reg [] [1, 3] [1] [] ⟨[(1, none, .val (.one (.ptr 1 0))), (3, none, .val (.one (I (wr ((k2 : Int) + 1)))))], [(1, .box [I a_x.AS, I a_x.Source, I a_x.Next, .sl (List.map GMessage.enc a_x.Received)])]⟩ [] (by kernel_rfl) trivial (?_)
      exact ⟨a_x.Received.length - (k2 + 1), by omega, k2 + 1, rfl, by omega, hz1, by rw [show wr ((k2 : Int) + 1) = ((k2 + 1 : Nat) : Int) from wrap_succ (by omega)]⟩

theorem i_ValidInbox_ok (a_x : GInbox) : MeetsAt Try.prog 25 [.agg (GInbox.enc a_x)] [.one (b1 (i_ValidInbox a_x))] none := by
  generalize hs : ([.one (b1 (i_ValidInbox a_x))] : List AV) = outs
  unfold i_ValidInbox at hs
  refine meets_data Try.func25 rfl (by kernel_rfl) (Nat.le_of_ble_eq_true rfl) ?_
  rintro ⟨P, m, w0, B, src, hsrc⟩ rfl rfl
  refine aw_seq ?_
  refine aw_reg [] [1] [1] [] ⟨[(1, none, .val (.one (.ptr 1 0)))], [(1, .box [I a_x.AS, I a_x.Source, I a_x.Next, .sl (List.map GMessage.enc a_x.Received)])]⟩ [] (by kernel_rfl) trivial (?_)
  refine andThen_normal ?_
  refine aw_seq ?_
  refine aw_seq ?_
  refine aw_reg [(7, .call [.one (I a_x.AS), .one (I 0), .one (I 7)] [.one (b1 (i_InRange a_x.AS 0 7))] (none)), (12, .call [.one (I a_x.Source), .one (I 0), .one (I 7)] [.one (b1 (i_InRange a_x.Source 0 7))] (none))] [1, 34] [1] [] ⟨[(1, none, .val (.one (.ptr 1 0))), (34, none, .val (.one (b1 (cond (cond (cond (cond (!(i_InRange a_x.AS 0 7)) true (!(i_InRange a_x.Source 0 7))) true ((a_x.AS : Int) == a_x.Source)) true ((a_x.Next : Int) != ((List.map GMessage.enc a_x.Received).length : Int))) true (decide ((a_x.Next : Int) > 20))))))], [(1, .box [I a_x.AS, I a_x.Source, I a_x.Next, .sl (List.map GMessage.enc a_x.Received)])]⟩ [([.one (I a_x.AS), .one (I 0), .one (I 7)] : List AV) = [.one (I a_x.AS), .one (I 0), .one (I 7)], MeetsAt Try.prog 58 [.one (I a_x.AS), .one (I 0), .one (I 7)] [.one (b1 (i_InRange a_x.AS 0 7))] (none), (!(!(i_InRange a_x.AS 0 7))) = true → (!(!(i_InRange a_x.AS 0 7))) = true, (!(!(i_InRange a_x.AS 0 7))) = true → ([.one (I a_x.Source), .one (I 0), .one (I 7)] : List AV) = [.one (I a_x.Source), .one (I 0), .one (I 7)], (!(!(i_InRange a_x.AS 0 7))) = true → MeetsAt Try.prog 58 [.one (I a_x.Source), .one (I 0), .one (I 7)] [.one (b1 (i_InRange a_x.Source 0 7))] (none), (!(!(i_InRange a_x.AS 0 7))) = true → (!(!(i_InRange a_x.AS 0 7))) = true, (!(!(i_InRange a_x.AS 0 7))) = true → (!(!(i_InRange a_x.AS 0 7))) = true, (!(i_InRange a_x.AS 0 7)) = false → (!(!(i_InRange a_x.AS 0 7))) = true, (!(cond (!(i_InRange a_x.AS 0 7)) true (!(i_InRange a_x.Source 0 7)))) = true → (!(cond (!(i_InRange a_x.AS 0 7)) true (!(i_InRange a_x.Source 0 7)))) = true, (!(cond (!(i_InRange a_x.AS 0 7)) true (!(i_InRange a_x.Source 0 7)))) = true → (!(cond (!(i_InRange a_x.AS 0 7)) true (!(i_InRange a_x.Source 0 7)))) = true, (!(cond (!(i_InRange a_x.AS 0 7)) true (!(i_InRange a_x.Source 0 7)))) = true → (!(cond (!(i_InRange a_x.AS 0 7)) true (!(i_InRange a_x.Source 0 7)))) = true, (!(cond (!(i_InRange a_x.AS 0 7)) true (!(i_InRange a_x.Source 0 7)))) = true → (!(cond (!(i_InRange a_x.AS 0 7)) true (!(i_InRange a_x.Source 0 7)))) = true, (cond (!(i_InRange a_x.AS 0 7)) true (!(i_InRange a_x.Source 0 7))) = false → (!(cond (!(i_InRange a_x.AS 0 7)) true (!(i_InRange a_x.Source 0 7)))) = true, (!(cond (cond (!(i_InRange a_x.AS 0 7)) true (!(i_InRange a_x.Source 0 7))) true ((a_x.AS : Int) == a_x.Source))) = true → (!(cond (cond (!(i_InRange a_x.AS 0 7)) true (!(i_InRange a_x.Source 0 7))) true ((a_x.AS : Int) == a_x.Source))) = true, (!(cond (cond (!(i_InRange a_x.AS 0 7)) true (!(i_InRange a_x.Source 0 7))) true ((a_x.AS : Int) == a_x.Source))) = true → (!(cond (cond (!(i_InRange a_x.AS 0 7)) true (!(i_InRange a_x.Source 0 7))) true ((a_x.AS : Int) == a_x.Source))) = true, (!(cond (cond (!(i_InRange a_x.AS 0 7)) true (!(i_InRange a_x.Source 0 7))) true ((a_x.AS : Int) == a_x.Source))) = true → (!(cond (cond (!(i_InRange a_x.AS 0 7)) true (!(i_InRange a_x.Source 0 7))) true ((a_x.AS : Int) == a_x.Source))) = true, (!(cond (cond (!(i_InRange a_x.AS 0 7)) true (!(i_InRange a_x.Source 0 7))) true ((a_x.AS : Int) == a_x.Source))) = true → (!(cond (cond (!(i_InRange a_x.AS 0 7)) true (!(i_InRange a_x.Source 0 7))) true ((a_x.AS : Int) == a_x.Source))) = true, (!(cond (cond (!(i_InRange a_x.AS 0 7)) true (!(i_InRange a_x.Source 0 7))) true ((a_x.AS : Int) == a_x.Source))) = true → (!(cond (cond (!(i_InRange a_x.AS 0 7)) true (!(i_InRange a_x.Source 0 7))) true ((a_x.AS : Int) == a_x.Source))) = true, (cond (cond (!(i_InRange a_x.AS 0 7)) true (!(i_InRange a_x.Source 0 7))) true ((a_x.AS : Int) == a_x.Source)) = false → (!(cond (cond (!(i_InRange a_x.AS 0 7)) true (!(i_InRange a_x.Source 0 7))) true ((a_x.AS : Int) == a_x.Source))) = true, (!(cond (cond (cond (!(i_InRange a_x.AS 0 7)) true (!(i_InRange a_x.Source 0 7))) true ((a_x.AS : Int) == a_x.Source)) true ((a_x.Next : Int) != ((List.map GMessage.enc a_x.Received).length : Int)))) = true → (!(cond (cond (cond (!(i_InRange a_x.AS 0 7)) true (!(i_InRange a_x.Source 0 7))) true ((a_x.AS : Int) == a_x.Source)) true ((a_x.Next : Int) != ((List.map GMessage.enc a_x.Received).length : Int)))) = true, (!(cond (cond (cond (!(i_InRange a_x.AS 0 7)) true (!(i_InRange a_x.Source 0 7))) true ((a_x.AS : Int) == a_x.Source)) true ((a_x.Next : Int) != ((List.map GMessage.enc a_x.Received).length : Int)))) = true → (!(cond (cond (cond (!(i_InRange a_x.AS 0 7)) true (!(i_InRange a_x.Source 0 7))) true ((a_x.AS : Int) == a_x.Source)) true ((a_x.Next : Int) != ((List.map GMessage.enc a_x.Received).length : Int)))) = true, (cond (cond (cond (!(i_InRange a_x.AS 0 7)) true (!(i_InRange a_x.Source 0 7))) true ((a_x.AS : Int) == a_x.Source)) true ((a_x.Next : Int) != ((List.map GMessage.enc a_x.Received).length : Int))) = false → (!(cond (cond (cond (!(i_InRange a_x.AS 0 7)) true (!(i_InRange a_x.Source 0 7))) true ((a_x.AS : Int) == a_x.Source)) true ((a_x.Next : Int) != ((List.map GMessage.enc a_x.Received).length : Int)))) = true] (by kernel_rfl) ⟨rfl, (i_InRange_ok a_x.AS 0 7), (fun hg => (by first | assumption | simp_all)), (fun _ => rfl), (fun hg => (i_InRange_ok a_x.Source 0 7)), (fun hg => (by first | assumption | simp_all)), (fun hg => (by first | assumption | simp_all)), (by first | exact id | (intro h; rw [h]; rfl) | (intros; simp_all)), (fun hg => (by first | assumption | simp_all)), (fun hg => (by first | assumption | simp_all)), (fun hg => (by first | assumption | simp_all)), (fun hg => (by first | assumption | simp_all)), (by first | exact id | (intro h; rw [h]; rfl) | (intros; simp_all)), (fun hg => (by first | assumption | simp_all)), (fun hg => (by first | assumption | simp_all)), (fun hg => (by first | assumption | simp_all)), (fun hg => (by first | assumption | simp_all)), (fun hg => (by first | assumption | simp_all)), (by first | exact id | (intro h; rw [h]; rfl) | (intros; simp_all)), (fun hg => (by first | assumption | simp_all)), (fun hg => (by first | assumption | simp_all)), (by first | exact id | (intro h; rw [h]; rfl) | (intros; simp_all)), trivial⟩ (q_cast ⟨[(1, none, .val (.one (.ptr 1 0))), (34, none, .val (.one (b1 (cond (cond (cond (cond (!(i_InRange a_x.AS 0 7)) true (!(i_InRange a_x.Source 0 7))) true ((a_x.AS : Int) == a_x.Source)) true ((a_x.Next : Int) != (a_x.Received.length : Int))) true (decide ((a_x.Next : Int) > 20))))))], [(1, .box [I a_x.AS, I a_x.Source, I a_x.Next, .sl (List.map GMessage.enc a_x.Received)])]⟩ (by simp only [Int.toNat_natCast, List.length_map, List.nil_append, List.map_append, List.map_cons, List.map_nil, List.map_take, List.map_drop, List.map_replicate, encI, encS, encU]) ?_)
  refine andThen_normal ?_
  refine aw_cond (cond (cond (cond (cond (!(i_InRange a_x.AS 0 7)) true (!(i_InRange a_x.Source 0 7))) true ((a_x.AS : Int) == a_x.Source)) true ((a_x.Next : Int) != (a_x.Received.length : Int))) true (decide ((a_x.Next : Int) > 20))) (by kernel_rfl) (fun h1 => ?_) (fun h1 => ?_)
  · rw [h1, cond_true] at hs
    refine aw_seq ?_
    refine aw_reg [] [2] [] [] ⟨[(2, none, .val (.one (b1 false)))], []⟩ [] (by kernel_rfl) trivial (?_)
    refine andThen_normal ?_
    exact aw_ret (ret_thru (ends_data (ys := [.one (b1 false)]) (.inl rfl) (by kernel_rfl) (by kernel_rfl) hs))
  · rw [h1, cond_false] at hs
    refine aw_pick [1] [1] ⟨[(1, none, .val (.one (.ptr 1 0)))], [(1, .box [I a_x.AS, I a_x.Source, I a_x.Next, .sl (List.map GMessage.enc a_x.Received)])]⟩ (by kernel_rfl) ?_
    refine aw_skip ?_
    refine andThen_normal ?_
    refine aw_seq ?_
    refine aw_seq ?_
    refine aw_reg [] [36, 37, 38] [] [] ⟨[(36, none, .val (.one (.sl (List.map GMessage.enc a_x.Received)))), (37, none, .val (.one (I ((List.map GMessage.enc a_x.Received).length : Int)))), (38, none, .val (.one (I 0)))], []⟩ [] (by kernel_rfl) trivial (q_cast ⟨[(36, none, .val (.one (.sl (List.map GMessage.enc a_x.Received)))), (37, none, .val (.one (I (a_x.Received.length : Int)))), (38, none, .val (.one (I 0)))], []⟩ (by simp only [Int.toNat_natCast, List.length_map, List.nil_append, List.map_append, List.map_cons, List.map_nil, List.map_take, List.map_drop, List.map_replicate, encI, encS, encU]) ?_)
    refine andThen_normal ?_
    refine aw_block ?_
    refine aw_len 36 (List.map GMessage.enc a_x.Received) (by kernel_rfl) (fun hl1 => ?_)
    rw [List.length_map] at hl1
    generalize hz1 : i_ValidInbox_l1  a_x.Received 0 = z1 at hs
    refine aw_loop (fun m st => ∃ (k3 : Nat), m = a_x.Received.length - k3 ∧ k3 ≤ a_x.Received.length ∧ i_ValidInbox_l1  (a_x.Received.drop k3) k3 = z1 ∧ st = ⟨[(36, none, .val (.one (.sl (List.map GMessage.enc a_x.Received)))), (37, none, .val (.one (I (a_x.Received.length : Int)))), (38, none, .val (.one (I (k3 : Int))))], []⟩) (a_x.Received.length) ⟨0, rfl, Nat.zero_le _, hz1, by kernel_rfl⟩ ?_
    clear hz1
    rintro m s ⟨k3, rfl, hk1, hz1, rfl⟩
    rcases drop_cases a_x.Received k3 hk1 with ⟨hd1, rfl⟩ | ⟨x4, hd1, hx1, hlt1⟩
    · rw [hd1, i_ValidInbox_l1] at hz1
      refine aw_seq ?_
      refine aw_reg [] [36, 37, 38, 39] [] [] ⟨[(36, none, .val (.one (.sl (List.map GMessage.enc a_x.Received)))), (37, none, .val (.one (I (a_x.Received.length : Int)))), (38, none, .val (.one (I (a_x.Received.length : Int)))), (39, none, .val (.one (b1 (decide (((a_x.Received.length : Int) : Int) < (a_x.Received.length : Int))))))], []⟩ [] (by kernel_rfl) trivial (?_)
      refine andThen_normal ?_
      refine aw_seq ?_
      refine aw_cond (decide (((a_x.Received.length : Int) : Int) < (a_x.Received.length : Int))) (by kernel_rfl) (fun h => absurd h (by simp)) (fun _ => ?_)
      refine aw_pick [] [] ⟨[], []⟩ (by kernel_rfl) ?_
      refine aw_exit (exit_thru (exit_thru (exit_here 0 (?_))))
      rw [← hz1, Sum.elim_inr] at hs
      refine andThen_normal ?_
      refine aw_seq ?_
      refine aw_reg [] [2] [] [] ⟨[(2, none, .val (.one (b1 true)))], []⟩ [] (by kernel_rfl) trivial (?_)
      refine andThen_normal ?_
      exact aw_ret (ends_data (ys := [.one (b1 true)]) (.inl rfl) (by kernel_rfl) (by kernel_rfl) hs)
    · rw [hd1, i_ValidInbox_l1] at hz1
      refine aw_seq ?_
      refine aw_reg [] [36, 37, 38, 39] [] [] ⟨[(36, none, .val (.one (.sl (List.map GMessage.enc a_x.Received)))), (37, none, .val (.one (I (a_x.Received.length : Int)))), (38, none, .val (.one (I (k3 : Int)))), (39, none, .val (.one (b1 (decide (((k3 : Int) : Int) < (a_x.Received.length : Int))))))], []⟩ [] (by kernel_rfl) trivial (?_)
      refine andThen_normal ?_
      refine aw_seq ?_
      refine aw_cond (decide (((k3 : Int) : Int) < (a_x.Received.length : Int))) (by kernel_rfl) (fun _ => ?_) (fun h => absurd h (by simp; omega))
      refine aw_pick [36, 37, 38] [] ⟨[(36, none, .val (.one (.sl (List.map GMessage.enc a_x.Received)))), (37, none, .val (.one (I (a_x.Received.length : Int)))), (38, none, .val (.one (I (k3 : Int))))], []⟩ (by kernel_rfl) ?_
      refine aw_skip ?_
      refine andThen_normal ?_
      refine aw_seq ?_
      refine aw_block ?_
      refine aw_seq ?_
      refine aw_reg [(40, .elem (GMessage.enc x4))] [4, 36, 37, 38] [4] [] ⟨[(4, none, .val (.one (.ptr 4 0))), (36, none, .val (.one (.sl (List.map GMessage.enc a_x.Received)))), (37, none, .val (.one (I (a_x.Received.length : Int)))), (38, none, .val (.one (I (k3 : Int))))], [(4, .box [.sl (List.map encU x4.Data)])]⟩ [(0 : Int) ≤ (k3 : Int), (List.map GMessage.enc a_x.Received)[((k3 : Int) : Int).toNat]? = some (GMessage.enc x4)] (by kernel_rfl) ⟨(by first | omega | (simp only [List.length_map, List.length_append, List.length_cons, List.length_nil, List.length_replicate, List.length_set, decide_eq_true_eq, Bool.and_eq_true, Bool.not_eq_true', decide_eq_false_iff_not, Bool.cond_false_right, Bool.not_eq_false', Bool.cond_true_left, Bool.or_eq_false_iff, Bool.or_eq_true, bne_eq_false_iff_eq, bne_iff_ne, beq_iff_eq, beq_eq_false_iff_ne, ne_eq, Int.not_lt, Int.not_le, ge_iff_le, gt_iff_lt, maxLen] at *; omega)), (el_map hx1), trivial⟩ (?_)
      refine andThen_normal ?_
      refine aw_seq ?_
      refine aw_reg [] [36, 37, 38, 45] [] [] ⟨[(36, none, .val (.one (.sl (List.map GMessage.enc a_x.Received)))), (37, none, .val (.one (I (a_x.Received.length : Int)))), (38, none, .val (.one (I (k3 : Int)))), (45, none, .val (.one (b1 (decide ((((List.map encU x4.Data).length : Int) : Int) > 40)))))], []⟩ [] (by kernel_rfl) trivial (q_cast ⟨[(36, none, .val (.one (.sl (List.map GMessage.enc a_x.Received)))), (37, none, .val (.one (I (a_x.Received.length : Int)))), (38, none, .val (.one (I (k3 : Int)))), (45, none, .val (.one (b1 (decide (((x4.Data.length : Int) : Int) > 40)))))], []⟩ (by simp only [Int.toNat_natCast, List.length_map, List.nil_append, List.map_append, List.map_cons, List.map_nil, List.map_take, List.map_drop, List.map_replicate, encI, encS, encU]) ?_)
      refine andThen_normal ?_
      refine aw_cond (decide (((x4.Data.length : Int) : Int) > 40)) (by kernel_rfl) (fun h5 => ?_) (fun h5 => ?_)
      · rw [h5, cond_true] at hz1
        refine aw_seq ?_
        refine aw_reg [] [2] [] [] ⟨[(2, none, .val (.one (b1 false)))], []⟩ [] (by kernel_rfl) trivial (?_)
        refine andThen_normal ?_
        rw [← hz1, Sum.elim_inl] at hs
        exact aw_ret (ret_blk (ret_thru (ret_thru (ret_blk (ret_thru (ends_data (ys := [.one (b1 false)]) (.inl rfl) (by kernel_rfl) (by kernel_rfl) hs))))))
      · rw [h5, cond_false] at hz1
        refine aw_pick [36, 37, 38] [] ⟨[(36, none, .val (.one (.sl (List.map GMessage.enc a_x.Received)))), (37, none, .val (.one (I (a_x.Received.length : Int)))), (38, none, .val (.one (I (k3 : Int))))], []⟩ (by kernel_rfl) ?_
        refine aw_skip ?_
        refine blk_normal ?_
        refine andThen_normal ?_
        refine aw_reg [] [36, 37, 38] [] [] ⟨[(36, none, .val (.one (.sl (List.map GMessage.enc a_x.Received)))), (37, none, .val (.one (I (a_x.Received.length : Int)))), (38, none, .val (.one (I (wr ((k3 : Int) + 1)))))], []⟩ [] (by kernel_rfl) trivial (?_)
        exact ⟨a_x.Received.length - (k3 + 1), by omega, k3 + 1, rfl, by omega, hz1, by rw [show wr ((k3 : Int) + 1) = ((k3 + 1 : Nat) : Int) from wrap_succ (by omega)]⟩

theorem l_eqMessage_ok (a_a : GMessage) (a_b : GMessage) : MeetsAt Try.prog 99 [.agg (GMessage.enc a_a), .agg (GMessage.enc a_b)] [.one (b1 (l_eqMessage a_a a_b))] none := by
  generalize hs : ([.one (b1 (l_eqMessage a_a a_b))] : List AV) = outs
  unfold l_eqMessage at hs
  refine meets_data Try.func99 rfl (by kernel_rfl) (Nat.le_of_ble_eq_true rfl) ?_
  rintro ⟨P, m, w0, B, src, hsrc⟩ rfl rfl
  refine aw_seq ?_
  refine aw_reg [] [2, 3] [2, 3] [] ⟨[(2, none, .val (.one (.ptr 2 0))), (3, none, .val (.one (.ptr 3 0)))], [(2, .box [.sl (List.map encU a_a.Data)]), (3, .box [.sl (List.map encU a_b.Data)])]⟩ [] (by kernel_rfl) trivial (?_)
  refine andThen_normal ?_
  refine aw_seq ?_
  refine aw_seq ?_
  refine aw_reg [(9, .call [.one (.sl (List.map encU a_a.Data)), .one (.sl (List.map encU a_b.Data))] [.one (b1 (l_eqByteS a_a.Data a_b.Data))] (none))] [10] [] [] ⟨[(10, none, .val (.one (b1 (!(l_eqByteS a_a.Data a_b.Data)))))], []⟩ [([.one (.sl (List.map encU a_a.Data)), .one (.sl (List.map encU a_b.Data))] : List AV) = [.one (.sl (List.map encU a_a.Data)), .one (.sl (List.map encU a_b.Data))], MeetsAt Try.prog 128 [.one (.sl (List.map encU a_a.Data)), .one (.sl (List.map encU a_b.Data))] [.one (b1 (l_eqByteS a_a.Data a_b.Data))] (none)] (by kernel_rfl) ⟨rfl, (l_eqByteS_ok a_a.Data a_b.Data), trivial⟩ (?_)
  refine andThen_normal ?_
  refine aw_cond (!(l_eqByteS a_a.Data a_b.Data)) (by kernel_rfl) (fun h1 => ?_) (fun h1 => ?_)
  · rw [h1, cond_true] at hs
    refine aw_seq ?_
    refine aw_reg [] [4] [] [] ⟨[(4, none, .val (.one (b1 false)))], []⟩ [] (by kernel_rfl) trivial (?_)
    refine andThen_normal ?_
    exact aw_ret (ret_thru (ends_data (ys := [.one (b1 false)]) (.inl rfl) (by kernel_rfl) (by kernel_rfl) hs))
  · rw [h1, cond_false] at hs
    refine aw_pick [] [] ⟨[], []⟩ (by kernel_rfl) ?_
    refine aw_skip ?_
    refine andThen_normal ?_
    refine aw_seq ?_
    refine aw_reg [] [4] [] [] ⟨[(4, none, .val (.one (b1 true)))], []⟩ [] (by kernel_rfl) trivial (?_)
    refine andThen_normal ?_
    exact aw_ret (ends_data (ys := [.one (b1 true)]) (.inl rfl) (by kernel_rfl) (by kernel_rfl) hs)

theorem l_szMessage_ok (a_a : GMessage) (a_left : Int) : MeetsAt Try.prog 102 [.agg (GMessage.enc a_a), .one (I a_left)] [.one (I (l_szMessage a_a a_left))] none := by
  generalize hs : ([.one (I (l_szMessage a_a a_left))] : List AV) = outs
  unfold l_szMessage at hs
  refine meets_data Try.func102 rfl (by kernel_rfl) (Nat.le_of_ble_eq_true rfl) ?_
  rintro ⟨P, m, w0, B, src, hsrc⟩ rfl rfl
  refine aw_seq ?_
  refine aw_reg [] [1, 2] [2] [] ⟨[(1, none, .val (.one (I a_left))), (2, none, .val (.one (.ptr 2 0)))], [(2, .box [.sl (List.map encU a_a.Data)])]⟩ [] (by kernel_rfl) trivial (?_)
  refine andThen_normal ?_
  refine aw_seq ?_
  refine aw_reg [(8, .call [.one (.sl (List.map encU a_a.Data)), .one (I a_left)] [.one (I (l_szByteS a_a.Data a_left))] (none))] [1] [] [] ⟨[(1, none, .val (.one (I (l_szByteS a_a.Data a_left))))], []⟩ [([.one (.sl (List.map encU a_a.Data)), .one (I a_left)] : List AV) = [.one (.sl (List.map encU a_a.Data)), .one (I a_left)], MeetsAt Try.prog 129 [.one (.sl (List.map encU a_a.Data)), .one (I a_left)] [.one (I (l_szByteS a_a.Data a_left))] (none)] (by kernel_rfl) ⟨rfl, (l_szByteS_ok a_a.Data a_left), trivial⟩ (?_)
  refine andThen_normal ?_
  refine aw_seq ?_
  refine aw_seq ?_
  refine aw_reg [] [1, 10] [] [] ⟨[(1, none, .val (.one (I (l_szByteS a_a.Data a_left)))), (10, none, .val (.one (b1 (decide (((l_szByteS a_a.Data a_left) : Int) < 0)))))], []⟩ [] (by kernel_rfl) trivial (?_)
  refine andThen_normal ?_
  refine aw_cond (decide (((l_szByteS a_a.Data a_left) : Int) < 0)) (by kernel_rfl) (fun h1 => ?_) (fun h1 => ?_)
  · rw [h1, cond_true] at hs
    refine aw_seq ?_
    refine aw_reg [] [4] [] [] ⟨[(4, none, .val (.one (I (-1))))], []⟩ [] (by kernel_rfl) trivial (?_)
    refine andThen_normal ?_
    exact aw_ret (ret_thru (ends_data (ys := [.one (I (-1))]) (.inl rfl) (by kernel_rfl) (by kernel_rfl) hs))
  · rw [h1, cond_false] at hs
    refine aw_pick [1] [] ⟨[(1, none, .val (.one (I (l_szByteS a_a.Data a_left))))], []⟩ (by kernel_rfl) ?_
    refine aw_skip ?_
    refine andThen_normal ?_
    refine aw_seq ?_
    refine aw_reg [] [4] [] [] ⟨[(4, none, .val (.one (I (l_szByteS a_a.Data a_left))))], []⟩ [] (by kernel_rfl) trivial (?_)
    refine andThen_normal ?_
    exact aw_ret (ends_data (ys := [.one (I (l_szByteS a_a.Data a_left))]) (.inl rfl) (by kernel_rfl) (by kernel_rfl) hs)

theorem l_toMessage_ok (a_a : GMessage) (hp : SmL a_a.enc) : MeetsAt Try.prog 103 [.agg (GMessage.enc a_a)] [.agg (GMessage.enc (l_toMessage a_a))] (some [[(5, 1)]]) := by
  generalize hs : ([.agg (GMessage.enc (l_toMessage a_a))] : List AV) = outs
  unfold l_toMessage at hs
  refine meets_fresh Try.func103 rfl (by kernel_rfl) (Nat.le_of_ble_eq_true rfl) ?_
  rintro ⟨P, m, w0, B, src, hsrc⟩ rfl rfl
  refine aw_seq ?_
  refine aw_reg [] [1, 2] [1, 2] [] ⟨[(1, none, .val (.one (.ptr 1 0))), (2, none, .val (.one (.ptr 2 0)))], [(1, .box [.sl (List.map encU a_a.Data)]), (2, .box [.nil])]⟩ [] (by kernel_rfl) trivial (?_)
  refine andThen_normal ?_
  refine aw_seq ?_
  refine aw_reg [] [1, 2, 3] [1, 2, 3] [] ⟨[(1, none, .val (.one (.ptr 1 0))), (2, none, .val (.one (.ptr 2 0))), (3, none, .val (.one (.ptr 3 0)))], [(1, .box [.sl (List.map encU a_a.Data)]), (2, .box [.nil]), (3, .box [.nil])]⟩ [] (by kernel_rfl) trivial (?_)
  refine andThen_normal ?_
  refine aw_seq ?_
  refine aw_reg [(6, .call [.one (.sl (List.map encU a_a.Data))] [.one (.sl (List.map encU (l_toByteS a_a.Data)))] (some [[(5, 1)]]))] [2, 3] [2, 3, 1096] [] ⟨[(2, none, .val (.one (.ptr 2 0))), (3, none, .val (.one (.ptr 3 0)))], [(2, .box [.nil]), (3, .box [.row 1096]), (1096, .row 5 1 (List.map encU (l_toByteS a_a.Data)) true)]⟩ [([.one (.sl (List.map encU a_a.Data))] : List AV) = [.one (.sl (List.map encU a_a.Data))], MeetsAt Try.prog 130 [.one (.sl (List.map encU a_a.Data))] [.one (.sl (List.map encU (l_toByteS a_a.Data)))] (some [[(5, 1)]])] (by kernel_rfl) ⟨rfl, (l_toByteS_ok a_a.Data (by first | assumption | exact hp _ (by simp [GMessage.enc]) | exact hf0 (by assumption) | exact hf1 (by assumption) (by assumption) | omega)), trivial⟩ (?_)
  refine andThen_normal ?_
  refine aw_seq ?_
  refine aw_reg [] [2] [2, 1096] [] ⟨[(2, none, .val (.one (.ptr 2 0)))], [(2, .box [.row 1096]), (1096, .row 5 1 (List.map encU (l_toByteS a_a.Data)) true)]⟩ [] (by kernel_rfl) trivial (?_)
  refine andThen_normal ?_
  exact aw_ret (ends_fresh (ys := [.agg [.row 1096]]) (ids := [1096]) (.inl rfl) (by kernel_rfl) (by kernel_rfl) rfl hs)

theorem l_eqMessageS_ok (a_a : List GMessage) (a_b : List GMessage) : MeetsAt Try.prog 59 [.one (.sl (List.map GMessage.enc a_a)), .one (.sl (List.map GMessage.enc a_b))] [.one (b1 (l_eqMessageS a_a a_b))] none := by
  generalize hs : ([.one (b1 (l_eqMessageS a_a a_b))] : List AV) = outs
  unfold l_eqMessageS at hs
  refine meets_data Try.func59 rfl (by kernel_rfl) (Nat.le_of_ble_eq_true rfl) ?_
  rintro ⟨P, m, w0, B, src, hsrc⟩ rfl rfl
  refine aw_seq ?_
  refine aw_reg [] [0, 1] [] [] ⟨[(0, none, .val (.one (.sl (List.map GMessage.enc a_a)))), (1, none, .val (.one (.sl (List.map GMessage.enc a_b))))], []⟩ [] (by kernel_rfl) trivial (?_)
  refine andThen_normal ?_
  refine aw_seq ?_
  refine aw_seq ?_
  refine aw_reg [] [0, 1, 10] [] [] ⟨[(0, none, .val (.one (.sl (List.map GMessage.enc a_a)))), (1, none, .val (.one (.sl (List.map GMessage.enc a_b)))), (10, none, .val (.one (b1 ((((List.map GMessage.enc a_a).length : Int) : Int) != ((List.map GMessage.enc a_b).length : Int)))))], []⟩ [] (by kernel_rfl) trivial (q_cast ⟨[(0, none, .val (.one (.sl (List.map GMessage.enc a_a)))), (1, none, .val (.one (.sl (List.map GMessage.enc a_b)))), (10, none, .val (.one (b1 (((a_a.length : Int) : Int) != (a_b.length : Int)))))], []⟩ (by simp only [Int.toNat_natCast, List.length_map, List.nil_append, List.map_append, List.map_cons, List.map_nil, List.map_take, List.map_drop, List.map_replicate, encI, encS, encU]) ?_)
  refine andThen_normal ?_
  refine aw_cond (((a_a.length : Int) : Int) != (a_b.length : Int)) (by kernel_rfl) (fun h1 => ?_) (fun h1 => ?_)
  · rw [h1, cond_true] at hs
    refine aw_seq ?_
    refine aw_reg [] [4] [] [] ⟨[(4, none, .val (.one (b1 false)))], []⟩ [] (by kernel_rfl) trivial (?_)
    refine andThen_normal ?_
    exact aw_ret (ret_thru (ends_data (ys := [.one (b1 false)]) (.inl rfl) (by kernel_rfl) (by kernel_rfl) hs))
  · rw [h1, cond_false] at hs
    refine aw_pick [0, 1] [] ⟨[(0, none, .val (.one (.sl (List.map GMessage.enc a_a)))), (1, none, .val (.one (.sl (List.map GMessage.enc a_b))))], []⟩ (by kernel_rfl) ?_
    refine aw_skip ?_
    refine andThen_normal ?_
    refine aw_seq ?_
    refine aw_seq ?_
    refine aw_reg [] [0, 1, 5] [] [] ⟨[(0, none, .val (.one (.sl (List.map GMessage.enc a_a)))), (1, none, .val (.one (.sl (List.map GMessage.enc a_b)))), (5, none, .val (.one (I 0)))], []⟩ [] (by kernel_rfl) trivial (?_)
    refine andThen_normal ?_
    refine aw_block ?_
    refine aw_len 0 (List.map GMessage.enc a_a) (by kernel_rfl) (fun hl1 => ?_)
    rw [List.length_map] at hl1
    generalize hz1 : l_eqMessageS_l1 a_b a_a 0 = z1 at hs
    refine aw_loop (fun m st => ∃ (k3 : Nat), m = a_a.length - k3 ∧ k3 ≤ a_a.length ∧ l_eqMessageS_l1 a_b (a_a.drop k3) k3 = z1 ∧ st = ⟨[(0, none, .val (.one (.sl (List.map GMessage.enc a_a)))), (1, none, .val (.one (.sl (List.map GMessage.enc a_b)))), (5, none, .val (.one (I (k3 : Int))))], []⟩) (a_a.length) ⟨0, rfl, Nat.zero_le _, hz1, by kernel_rfl⟩ ?_
    clear hz1
    rintro m s ⟨k3, rfl, hk1, hz1, rfl⟩
    rcases drop_cases a_a k3 hk1 with ⟨hd1, rfl⟩ | ⟨x4, hd1, hx1, hlt1⟩
    · rw [hd1, l_eqMessageS_l1] at hz1
      refine aw_seq ?_
      refine aw_seq ?_
      refine aw_reg [] [0, 1, 5, 14] [] [] ⟨[(0, none, .val (.one (.sl (List.map GMessage.enc a_a)))), (1, none, .val (.one (.sl (List.map GMessage.enc a_b)))), (5, none, .val (.one (I (a_a.length : Int)))), (14, none, .val (.one (b1 (decide (((a_a.length : Int) : Int) < ((List.map GMessage.enc a_a).length : Int))))))], []⟩ [] (by kernel_rfl) trivial (q_cast ⟨[(0, none, .val (.one (.sl (List.map GMessage.enc a_a)))), (1, none, .val (.one (.sl (List.map GMessage.enc a_b)))), (5, none, .val (.one (I (a_a.length : Int)))), (14, none, .val (.one (b1 (decide (((a_a.length : Int) : Int) < (a_a.length : Int))))))], []⟩ (by simp only [Int.toNat_natCast, List.length_map, List.nil_append, List.map_append, List.map_cons, List.map_nil, List.map_take, List.map_drop, List.map_replicate, encI, encS, encU]) ?_)
      refine andThen_normal ?_
      refine aw_cond (decide (((a_a.length : Int) : Int) < (a_a.length : Int))) (by kernel_rfl) (fun h => absurd h (by simp)) (fun _ => ?_)
      refine aw_pick [] [] ⟨[], []⟩ (by kernel_rfl) ?_
      refine aw_exit (exit_thru (exit_thru (exit_here 0 (?_))))
      rw [← hz1, Sum.elim_inr] at hs
      refine andThen_normal ?_
      refine aw_seq ?_
      refine aw_reg [] [4] [] [] ⟨[(4, none, .val (.one (b1 true)))], []⟩ [] (by kernel_rfl) trivial (?_)
      refine andThen_normal ?_
      exact aw_ret (ends_data (ys := [.one (b1 true)]) (.inl rfl) (by kernel_rfl) (by kernel_rfl) hs)
    · rw [hd1, l_eqMessageS_l1] at hz1
      refine aw_seq ?_
      refine aw_seq ?_
      refine aw_reg [] [0, 1, 5, 14] [] [] ⟨[(0, none, .val (.one (.sl (List.map GMessage.enc a_a)))), (1, none, .val (.one (.sl (List.map GMessage.enc a_b)))), (5, none, .val (.one (I (k3 : Int)))), (14, none, .val (.one (b1 (decide (((k3 : Int) : Int) < ((List.map GMessage.enc a_a).length : Int))))))], []⟩ [] (by kernel_rfl) trivial (q_cast ⟨[(0, none, .val (.one (.sl (List.map GMessage.enc a_a)))), (1, none, .val (.one (.sl (List.map GMessage.enc a_b)))), (5, none, .val (.one (I (k3 : Int)))), (14, none, .val (.one (b1 (decide (((k3 : Int) : Int) < (a_a.length : Int))))))], []⟩ (by simp only [Int.toNat_natCast, List.length_map, List.nil_append, List.map_append, List.map_cons, List.map_nil, List.map_take, List.map_drop, List.map_replicate, encI, encS, encU]) ?_)
      refine andThen_normal ?_
      refine aw_cond (decide (((k3 : Int) : Int) < (a_a.length : Int))) (by kernel_rfl) (fun _ => ?_) (fun h => absurd h (by simp; omega))
      refine aw_pick [0, 1, 5] [] ⟨[(0, none, .val (.one (.sl (List.map GMessage.enc a_a)))), (1, none, .val (.one (.sl (List.map GMessage.enc a_b)))), (5, none, .val (.one (I (k3 : Int))))], []⟩ (by kernel_rfl) ?_
      refine aw_skip ?_
      refine andThen_normal ?_
      refine aw_seq ?_
      refine aw_block ?_
      refine aw_seq ?_
      refine aw_drw [(19, .elem (GMessage.enc x4)), (23, .elem (GMessage.enc (a_b.getD k3 GMessage.zero))), (25, .call [.agg (GMessage.enc x4), .agg (GMessage.enc (a_b.getD k3 GMessage.zero))] [.one (b1 (l_eqMessage x4 (a_b.getD k3 GMessage.zero)))] (none))] [0, 1, 2, 3, 4, 5, 6, 7, 8, 9] [0, 1, 5, 26] [] [] ⟨[(0, none, .val (.one (.sl (List.map GMessage.enc a_a)))), (1, none, .val (.one (.sl (List.map GMessage.enc a_b)))), (5, none, .val (.one (I (k3 : Int)))), (26, none, .val (.one (b1 (!(l_eqMessage x4 (a_b.getD k3 GMessage.zero))))))], []⟩ [(0 : Int) ≤ (k3 : Int), (List.map GMessage.enc a_a)[((k3 : Int) : Int).toNat]? = some (GMessage.enc x4), (0 : Int) ≤ (k3 : Int), (List.map GMessage.enc a_b)[((k3 : Int) : Int).toNat]? = some (GMessage.enc (a_b.getD k3 GMessage.zero)), ([.agg [.sl (List.map encU x4.Data)], .agg [.sl (List.map encU ((a_b.getD k3 GMessage.zero).Data))]] : List AV) = [.agg (GMessage.enc x4), .agg (GMessage.enc (a_b.getD k3 GMessage.zero))], MeetsAt Try.prog 99 [.agg (GMessage.enc x4), .agg (GMessage.enc (a_b.getD k3 GMessage.zero))] [.one (b1 (l_eqMessage x4 (a_b.getD k3 GMessage.zero)))] (none)] (by kernel_rfl) (by kernel_rfl) (Nat.le_of_ble_eq_true rfl) (by kernel_rfl) ⟨(by first | omega | (simp only [List.length_map, List.length_append, List.length_cons, List.length_nil, List.length_replicate, List.length_set, decide_eq_true_eq, Bool.and_eq_true, Bool.not_eq_true', decide_eq_false_iff_not, Bool.cond_false_right, Bool.not_eq_false', Bool.cond_true_left, Bool.or_eq_false_iff, Bool.or_eq_true, bne_eq_false_iff_eq, bne_iff_ne, beq_iff_eq, beq_eq_false_iff_ne, ne_eq, Int.not_lt, Int.not_le, ge_iff_le, gt_iff_lt, maxLen] at *; omega)), (el_map hx1), (by first | omega | (simp only [List.length_map, List.length_append, List.length_cons, List.length_nil, List.length_replicate, List.length_set, decide_eq_true_eq, Bool.and_eq_true, Bool.not_eq_true', decide_eq_false_iff_not, Bool.cond_false_right, Bool.not_eq_false', Bool.cond_true_left, Bool.or_eq_false_iff, Bool.or_eq_true, bne_eq_false_iff_eq, bne_iff_ne, beq_iff_eq, beq_eq_false_iff_ne, ne_eq, Int.not_lt, Int.not_le, ge_iff_le, gt_iff_lt, maxLen] at *; omega)), (el_getD (n := (k3 : Int)) (by first | omega | (simp only [List.length_map, List.length_append, List.length_cons, List.length_nil, List.length_replicate, List.length_set, decide_eq_true_eq, Bool.and_eq_true, Bool.not_eq_true', decide_eq_false_iff_not, Bool.cond_false_right, Bool.not_eq_false', Bool.cond_true_left, Bool.or_eq_false_iff, Bool.or_eq_true, bne_eq_false_iff_eq, bne_iff_ne, beq_iff_eq, beq_eq_false_iff_ne, ne_eq, Int.not_lt, Int.not_le, ge_iff_le, gt_iff_lt, maxLen] at *; omega)) (by first | omega | (simp only [List.length_map, List.length_append, List.length_cons, List.length_nil, List.length_replicate, List.length_set, decide_eq_true_eq, Bool.and_eq_true, Bool.not_eq_true', decide_eq_false_iff_not, Bool.cond_false_right, Bool.not_eq_false', Bool.cond_true_left, Bool.or_eq_false_iff, Bool.or_eq_true, bne_eq_false_iff_eq, bne_iff_ne, beq_iff_eq, beq_eq_false_iff_ne, ne_eq, Int.not_lt, Int.not_le, ge_iff_le, gt_iff_lt, maxLen] at *; omega))), (by first | rfl | simp only [Int.toNat_natCast, List.length_map, List.nil_append, List.map_append, List.map_cons, List.map_nil, List.map_take, List.map_drop, List.map_replicate]), (l_eqMessage_ok x4 (a_b.getD k3 GMessage.zero)), trivial⟩ (?_)
      refine andThen_normal ?_
      refine aw_cond (!(l_eqMessage x4 (a_b.getD k3 GMessage.zero))) (by kernel_rfl) (fun h5 => ?_) (fun h5 => ?_)
      · rw [h5, cond_true] at hz1
        refine aw_seq ?_
        refine aw_reg [] [4] [] [] ⟨[(4, none, .val (.one (b1 false)))], []⟩ [] (by kernel_rfl) trivial (?_)
        refine andThen_normal ?_
        rw [← hz1, Sum.elim_inl] at hs
        exact aw_ret (ret_blk (ret_thru (ret_thru (ret_blk (ret_thru (ends_data (ys := [.one (b1 false)]) (.inl rfl) (by kernel_rfl) (by kernel_rfl) hs))))))
      · rw [h5, cond_false] at hz1
        refine aw_pick [0, 1, 5] [] ⟨[(0, none, .val (.one (.sl (List.map GMessage.enc a_a)))), (1, none, .val (.one (.sl (List.map GMessage.enc a_b)))), (5, none, .val (.one (I (k3 : Int))))], []⟩ (by kernel_rfl) ?_
        refine aw_skip ?_
        refine blk_normal ?_
        refine andThen_normal ?_
        refine aw_reg [] [0, 1, 5] [] [] ⟨[(0, none, .val (.one (.sl (List.map GMessage.enc a_a)))), (1, none, .val (.one (.sl (List.map GMessage.enc a_b)))), (5, none, .val (.one (I (wr ((k3 : Int) + 1)))))], []⟩ [] (by kernel_rfl) trivial (?_)
        exact ⟨a_a.length - (k3 + 1), by omega, k3 + 1, rfl, by omega, hz1, by rw [show wr ((k3 : Int) + 1) = ((k3 + 1 : Nat) : Int) from wrap_succ (by omega)]⟩

theorem l_szMessageS_ok (a_a : List GMessage) (a_left : Int) : MeetsAt Try.prog 62 [.one (.sl (List.map GMessage.enc a_a)), .one (I a_left)] [.one (I (l_szMessageS a_a a_left))] none := by
  generalize hs : ([.one (I (l_szMessageS a_a a_left))] : List AV) = outs
  unfold l_szMessageS at hs
  refine meets_data Try.func62 rfl (by kernel_rfl) (Nat.le_of_ble_eq_true rfl) ?_
  rintro ⟨P, m, w0, B, src, hsrc⟩ rfl rfl
  refine aw_seq ?_
  refine aw_reg [] [0, 1] [] [] ⟨[(0, none, .val (.one (.sl (List.map GMessage.enc a_a)))), (1, none, .val (.one (I a_left)))], []⟩ [] (by kernel_rfl) trivial (?_)
  refine andThen_normal ?_
  refine aw_seq ?_
  refine aw_reg [] [0, 1] [] [] ⟨[(0, none, .val (.one (.sl (List.map GMessage.enc a_a)))), (1, none, .val (.one (I (wr (a_left - ((List.map GMessage.enc a_a).length : Int))))))], []⟩ [] (by kernel_rfl) trivial (q_cast ⟨[(0, none, .val (.one (.sl (List.map GMessage.enc a_a)))), (1, none, .val (.one (I (wr (a_left - (a_a.length : Int))))))], []⟩ (by simp only [Int.toNat_natCast, List.length_map, List.nil_append, List.map_append, List.map_cons, List.map_nil, List.map_take, List.map_drop, List.map_replicate, encI, encS, encU]) ?_)
  refine andThen_normal ?_
  refine aw_seq ?_
  refine aw_seq ?_
  refine aw_reg [] [0, 1, 11] [] [] ⟨[(0, none, .val (.one (.sl (List.map GMessage.enc a_a)))), (1, none, .val (.one (I (wr (a_left - (a_a.length : Int)))))), (11, none, .val (.one (b1 (decide (((wr (a_left - (a_a.length : Int))) : Int) < 0)))))], []⟩ [] (by kernel_rfl) trivial (?_)
  refine andThen_normal ?_
  refine aw_cond (decide (((wr (a_left - (a_a.length : Int))) : Int) < 0)) (by kernel_rfl) (fun h1 => ?_) (fun h1 => ?_)
  · rw [h1, cond_true] at hs
    refine aw_seq ?_
    refine aw_reg [] [4] [] [] ⟨[(4, none, .val (.one (I (-1))))], []⟩ [] (by kernel_rfl) trivial (?_)
    refine andThen_normal ?_
    exact aw_ret (ret_thru (ends_data (ys := [.one (I (-1))]) (.inl rfl) (by kernel_rfl) (by kernel_rfl) hs))
  · rw [h1, cond_false] at hs
    refine aw_pick [0, 1] [] ⟨[(0, none, .val (.one (.sl (List.map GMessage.enc a_a)))), (1, none, .val (.one (I (wr (a_left - (a_a.length : Int))))))], []⟩ (by kernel_rfl) ?_
    refine aw_skip ?_
    refine andThen_normal ?_
    refine aw_seq ?_
    refine aw_seq ?_
    refine aw_reg [] [0, 1, 5] [] [] ⟨[(0, none, .val (.one (.sl (List.map GMessage.enc a_a)))), (1, none, .val (.one (I (wr (a_left - (a_a.length : Int)))))), (5, none, .val (.one (I 0)))], []⟩ [] (by kernel_rfl) trivial (?_)
    refine andThen_normal ?_
    refine aw_block ?_
    refine aw_len 0 (List.map GMessage.enc a_a) (by kernel_rfl) (fun hl1 => ?_)
    rw [List.length_map] at hl1
    generalize hz1 : l_szMessageS_l1  a_a 0 (wr (a_left - (a_a.length : Int))) = z1 at hs
    refine aw_loop (fun m st => ∃ (k4 : Nat) (c2 : Int), m = a_a.length - k4 ∧ k4 ≤ a_a.length ∧ l_szMessageS_l1  (a_a.drop k4) k4 c2 = z1 ∧ st = ⟨[(0, none, .val (.one (.sl (List.map GMessage.enc a_a)))), (1, none, .val (.one (I c2))), (5, none, .val (.one (I (k4 : Int))))], []⟩) (a_a.length) ⟨0, wr (a_left - (a_a.length : Int)), rfl, Nat.zero_le _, hz1, by kernel_rfl⟩ ?_
    clear hz1
    rintro m s ⟨k4, c2, rfl, hk1, hz1, rfl⟩
    rcases drop_cases a_a k4 hk1 with ⟨hd1, rfl⟩ | ⟨x5, hd1, hx1, hlt1⟩
    · rw [hd1, l_szMessageS_l1] at hz1
      refine aw_seq ?_
      refine aw_seq ?_
      refine aw_reg [] [0, 1, 5, 15] [] [] ⟨[(0, none, .val (.one (.sl (List.map GMessage.enc a_a)))), (1, none, .val (.one (I c2))), (5, none, .val (.one (I (a_a.length : Int)))), (15, none, .val (.one (b1 (decide (((a_a.length : Int) : Int) < ((List.map GMessage.enc a_a).length : Int))))))], []⟩ [] (by kernel_rfl) trivial (q_cast ⟨[(0, none, .val (.one (.sl (List.map GMessage.enc a_a)))), (1, none, .val (.one (I c2))), (5, none, .val (.one (I (a_a.length : Int)))), (15, none, .val (.one (b1 (decide (((a_a.length : Int) : Int) < (a_a.length : Int))))))], []⟩ (by simp only [Int.toNat_natCast, List.length_map, List.nil_append, List.map_append, List.map_cons, List.map_nil, List.map_take, List.map_drop, List.map_replicate, encI, encS, encU]) ?_)
      refine andThen_normal ?_
      refine aw_cond (decide (((a_a.length : Int) : Int) < (a_a.length : Int))) (by kernel_rfl) (fun h => absurd h (by simp)) (fun _ => ?_)
      refine aw_pick [1] [] ⟨[(1, none, .val (.one (I c2)))], []⟩ (by kernel_rfl) ?_
      refine aw_exit (exit_thru (exit_thru (exit_here 0 (?_))))
      rw [← hz1, Sum.elim_inr] at hs
      refine andThen_normal ?_
      refine aw_seq ?_
      refine aw_reg [] [4] [] [] ⟨[(4, none, .val (.one (I c2)))], []⟩ [] (by kernel_rfl) trivial (?_)
      refine andThen_normal ?_
      exact aw_ret (ends_data (ys := [.one (I c2)]) (.inl rfl) (by kernel_rfl) (by kernel_rfl) hs)
    · rw [hd1, l_szMessageS_l1] at hz1
      refine aw_seq ?_
      refine aw_seq ?_
      refine aw_reg [] [0, 1, 5, 15] [] [] ⟨[(0, none, .val (.one (.sl (List.map GMessage.enc a_a)))), (1, none, .val (.one (I c2))), (5, none, .val (.one (I (k4 : Int)))), (15, none, .val (.one (b1 (decide (((k4 : Int) : Int) < ((List.map GMessage.enc a_a).length : Int))))))], []⟩ [] (by kernel_rfl) trivial (q_cast ⟨[(0, none, .val (.one (.sl (List.map GMessage.enc a_a)))), (1, none, .val (.one (I c2))), (5, none, .val (.one (I (k4 : Int)))), (15, none, .val (.one (b1 (decide (((k4 : Int) : Int) < (a_a.length : Int))))))], []⟩ (by simp only [Int.toNat_natCast, List.length_map, List.nil_append, List.map_append, List.map_cons, List.map_nil, List.map_take, List.map_drop, List.map_replicate, encI, encS, encU]) ?_)
      refine andThen_normal ?_
      refine aw_cond (decide (((k4 : Int) : Int) < (a_a.length : Int))) (by kernel_rfl) (fun _ => ?_) (fun h => absurd h (by simp; omega))
      refine aw_pick [0, 1, 5] [] ⟨[(0, none, .val (.one (.sl (List.map GMessage.enc a_a)))), (1, none, .val (.one (I c2))), (5, none, .val (.one (I (k4 : Int))))], []⟩ (by kernel_rfl) ?_
      refine aw_skip ?_
      refine andThen_normal ?_
      refine aw_seq ?_
      refine aw_block ?_
      refine aw_seq ?_
      refine aw_reg [(20, .elem (GMessage.enc x5)), (23, .call [.agg (GMessage.enc x5), .one (I c2)] [.one (I (l_szMessage x5 c2))] (none))] [0, 1, 5] [] [] ⟨[(0, none, .val (.one (.sl (List.map GMessage.enc a_a)))), (1, none, .val (.one (I (l_szMessage x5 c2)))), (5, none, .val (.one (I (k4 : Int))))], []⟩ [(0 : Int) ≤ (k4 : Int), (List.map GMessage.enc a_a)[((k4 : Int) : Int).toNat]? = some (GMessage.enc x5), ([.agg [.sl (List.map encU x5.Data)], .one (I c2)] : List AV) = [.agg (GMessage.enc x5), .one (I c2)], MeetsAt Try.prog 102 [.agg (GMessage.enc x5), .one (I c2)] [.one (I (l_szMessage x5 c2))] (none)] (by kernel_rfl) ⟨(by first | omega | (simp only [List.length_map, List.length_append, List.length_cons, List.length_nil, List.length_replicate, List.length_set, decide_eq_true_eq, Bool.and_eq_true, Bool.not_eq_true', decide_eq_false_iff_not, Bool.cond_false_right, Bool.not_eq_false', Bool.cond_true_left, Bool.or_eq_false_iff, Bool.or_eq_true, bne_eq_false_iff_eq, bne_iff_ne, beq_iff_eq, beq_eq_false_iff_ne, ne_eq, Int.not_lt, Int.not_le, ge_iff_le, gt_iff_lt, maxLen] at *; omega)), (el_map hx1), (by first | rfl | simp only [Int.toNat_natCast, List.length_map, List.nil_append, List.map_append, List.map_cons, List.map_nil, List.map_take, List.map_drop, List.map_replicate]), (l_szMessage_ok x5 c2), trivial⟩ (?_)
      refine andThen_normal ?_
      refine aw_seq ?_
      refine aw_reg [] [0, 1, 5, 25] [] [] ⟨[(0, none, .val (.one (.sl (List.map GMessage.enc a_a)))), (1, none, .val (.one (I (l_szMessage x5 c2)))), (5, none, .val (.one (I (k4 : Int)))), (25, none, .val (.one (b1 (decide (((l_szMessage x5 c2) : Int) < 0)))))], []⟩ [] (by kernel_rfl) trivial (?_)
      refine andThen_normal ?_
      refine aw_cond (decide (((l_szMessage x5 c2) : Int) < 0)) (by kernel_rfl) (fun h6 => ?_) (fun h6 => ?_)
      · rw [h6, cond_true] at hz1
        refine aw_seq ?_
        refine aw_reg [] [4] [] [] ⟨[(4, none, .val (.one (I (-1))))], []⟩ [] (by kernel_rfl) trivial (?_)
        refine andThen_normal ?_
        rw [← hz1, Sum.elim_inl] at hs
        exact aw_ret (ret_blk (ret_thru (ret_thru (ret_blk (ret_thru (ends_data (ys := [.one (I (-1))]) (.inl rfl) (by kernel_rfl) (by kernel_rfl) hs))))))
      · rw [h6, cond_false] at hz1
        refine aw_pick [0, 1, 5] [] ⟨[(0, none, .val (.one (.sl (List.map GMessage.enc a_a)))), (1, none, .val (.one (I (l_szMessage x5 c2)))), (5, none, .val (.one (I (k4 : Int))))], []⟩ (by kernel_rfl) ?_
        refine aw_skip ?_
        refine blk_normal ?_
        refine andThen_normal ?_
        refine aw_reg [] [0, 1, 5] [] [] ⟨[(0, none, .val (.one (.sl (List.map GMessage.enc a_a)))), (1, none, .val (.one (I (l_szMessage x5 c2)))), (5, none, .val (.one (I (wr ((k4 : Int) + 1)))))], []⟩ [] (by kernel_rfl) trivial (?_)
        exact ⟨a_a.length - (k4 + 1), by omega, k4 + 1, (l_szMessage x5 c2), rfl, by omega, hz1, by rw [show wr ((k4 : Int) + 1) = ((k4 + 1 : Nat) : Int) from wrap_succ (by omega)]⟩

theorem l_toMessageS_ok (a_a : List GMessage) (hp : T.Sm (.sl (a_a.map GMessage.enc))) : MeetsAt Try.prog 63 [.one (.sl (List.map GMessage.enc a_a))] [.one (.sl (List.map GMessage.enc (l_toMessageS a_a)))] (some [[(87, 1)]]) := by
  generalize hs : ([.one (.sl (List.map GMessage.enc (l_toMessageS a_a)))] : List AV) = outs
  unfold l_toMessageS at hs
  refine meets_fresh Try.func63 rfl (by kernel_rfl) (Nat.le_of_ble_eq_true rfl) ?_
  rintro ⟨P, m, w0, B, src, hsrc⟩ rfl rfl
  have hf0 := hp.len
  refine aw_seq ?_
  refine aw_reg [] [0] [] [] ⟨[(0, none, .val (.one (.sl (List.map GMessage.enc a_a))))], []⟩ [] (by kernel_rfl) trivial (?_)
  refine andThen_normal ?_
  refine aw_seq ?_
  refine aw_reg [] [0, 3] [7] [] ⟨[(0, none, .val (.one (.sl (List.map GMessage.enc a_a)))), (3, none, .val (.one (.row 7)))], [(7, .row 87 1 (List.replicate (((List.map GMessage.enc a_a).length : Int)).toNat [.sl ([])]) true)]⟩ [((List.map GMessage.enc a_a).length : Int) = ((List.map GMessage.enc a_a).length : Int), (0 : Int) ≤ ((List.map GMessage.enc a_a).length : Int), ((24 : Nat) : Int) * ((List.map GMessage.enc a_a).length : Int) ≤ 281474976710656, ((List.map GMessage.enc a_a).length : Int) ≤ 4611686018427387904] (by kernel_rfl) ⟨rfl, (by first | omega | (simp only [List.length_map, List.length_append, List.length_cons, List.length_nil, List.length_replicate, List.length_set, decide_eq_true_eq, Bool.and_eq_true, Bool.not_eq_true', decide_eq_false_iff_not, Bool.cond_false_right, Bool.not_eq_false', Bool.cond_true_left, Bool.or_eq_false_iff, Bool.or_eq_true, bne_eq_false_iff_eq, bne_iff_ne, beq_iff_eq, beq_eq_false_iff_ne, ne_eq, Int.not_lt, Int.not_le, ge_iff_le, gt_iff_lt, maxLen] at *; omega)), (by first | omega | (simp only [List.length_map, List.length_append, List.length_cons, List.length_nil, List.length_replicate, List.length_set, decide_eq_true_eq, Bool.and_eq_true, Bool.not_eq_true', decide_eq_false_iff_not, Bool.cond_false_right, Bool.not_eq_false', Bool.cond_true_left, Bool.or_eq_false_iff, Bool.or_eq_true, bne_eq_false_iff_eq, bne_iff_ne, beq_iff_eq, beq_eq_false_iff_ne, ne_eq, Int.not_lt, Int.not_le, ge_iff_le, gt_iff_lt, maxLen] at *; omega)), (by first | omega | (simp only [List.length_map, List.length_append, List.length_cons, List.length_nil, List.length_replicate, List.length_set, decide_eq_true_eq, Bool.and_eq_true, Bool.not_eq_true', decide_eq_false_iff_not, Bool.cond_false_right, Bool.not_eq_false', Bool.cond_true_left, Bool.or_eq_false_iff, Bool.or_eq_true, bne_eq_false_iff_eq, bne_iff_ne, beq_iff_eq, beq_eq_false_iff_ne, ne_eq, Int.not_lt, Int.not_le, ge_iff_le, gt_iff_lt, maxLen] at *; omega)), trivial⟩ (q_cast ⟨[(0, none, .val (.one (.sl (List.map GMessage.enc a_a)))), (3, none, .val (.one (.row 7)))], [(7, .row 87 1 (List.map GMessage.enc (List.replicate a_a.length GMessage.zero)) true)]⟩ (by simp only [Int.toNat_natCast, List.length_map, List.nil_append, List.map_append, List.map_cons, List.map_nil, List.map_take, List.map_drop, List.map_replicate, GMessage.enc, GMessage.zero, encI, encS, encU]) ?_)
  refine andThen_normal ?_
  refine aw_seq ?_
  refine aw_seq ?_
  refine aw_reg [] [0, 3, 4] [7] [] ⟨[(0, none, .val (.one (.sl (List.map GMessage.enc a_a)))), (3, none, .val (.one (.row 7))), (4, none, .val (.one (I 0)))], [(7, .row 87 1 (List.map GMessage.enc (List.replicate a_a.length GMessage.zero)) true)]⟩ [] (by kernel_rfl) trivial (?_)
  refine andThen_normal ?_
  refine aw_block ?_
  refine aw_len 0 (List.map GMessage.enc a_a) (by kernel_rfl) (fun hl1 => ?_)
  rw [List.length_map] at hl1
  generalize hz1 : l_toMessageS_l1  a_a 0 (List.replicate a_a.length GMessage.zero) = z1 at hs
  refine aw_loop (fun m st => ∃ (k3 : Nat) (c2 : List GMessage), m = a_a.length - k3 ∧ k3 ≤ a_a.length ∧ c2.length = (List.replicate a_a.length GMessage.zero).length ∧ l_toMessageS_l1  (a_a.drop k3) k3 c2 = z1 ∧ st = ⟨[(0, none, .val (.one (.sl (List.map GMessage.enc a_a)))), (3, none, .val (.one (.row 7))), (4, none, .val (.one (I (k3 : Int))))], [(7, .row 87 1 (List.map GMessage.enc c2) true)]⟩) (a_a.length) ⟨0, List.replicate a_a.length GMessage.zero, rfl, Nat.zero_le _, rfl, hz1, by kernel_rfl⟩ ?_
  clear hz1
  rintro m s ⟨k3, c2, rfl, hk1, hic2, hz1, rfl⟩
  rcases drop_cases a_a k3 hk1 with ⟨hd1, rfl⟩ | ⟨x4, hd1, hx1, hlt1⟩
  · rw [hd1, l_toMessageS_l1] at hz1
    refine aw_seq ?_
    refine aw_seq ?_
    refine aw_reg [] [0, 3, 4, 11] [7] [] ⟨[(0, none, .val (.one (.sl (List.map GMessage.enc a_a)))), (3, none, .val (.one (.row 7))), (4, none, .val (.one (I (a_a.length : Int)))), (11, none, .val (.one (b1 (decide (((a_a.length : Int) : Int) < ((List.map GMessage.enc a_a).length : Int))))))], [(7, .row 87 1 (List.map GMessage.enc c2) true)]⟩ [] (by kernel_rfl) trivial (q_cast ⟨[(0, none, .val (.one (.sl (List.map GMessage.enc a_a)))), (3, none, .val (.one (.row 7))), (4, none, .val (.one (I (a_a.length : Int)))), (11, none, .val (.one (b1 (decide (((a_a.length : Int) : Int) < (a_a.length : Int))))))], [(7, .row 87 1 (List.map GMessage.enc c2) true)]⟩ (by simp only [Int.toNat_natCast, List.length_map, List.nil_append, List.map_append, List.map_cons, List.map_nil, List.map_take, List.map_drop, List.map_replicate, GMessage.enc, GMessage.zero, encI, encS, encU]) ?_)
    refine andThen_normal ?_
    refine aw_cond (decide (((a_a.length : Int) : Int) < (a_a.length : Int))) (by kernel_rfl) (fun h => absurd h (by simp)) (fun _ => ?_)
    refine aw_pick [3] [7] ⟨[(3, none, .val (.one (.row 7)))], [(7, .row 87 1 (List.map GMessage.enc c2) true)]⟩ (by kernel_rfl) ?_
    refine aw_exit (exit_thru (exit_thru (exit_here 0 (?_))))
    rw [← hz1] at hs
    refine andThen_normal ?_
    refine aw_seq ?_
    refine aw_reg [] [2] [7] [] ⟨[(2, none, .val (.one (.row 7)))], [(7, .row 87 1 (List.map GMessage.enc c2) true)]⟩ [] (by kernel_rfl) trivial (?_)
    refine andThen_normal ?_
    exact aw_ret (ends_fresh (ys := [.one (.row 7)]) (ids := [7]) (.inl rfl) (by kernel_rfl) (by kernel_rfl) rfl hs)
  · rw [hd1, l_toMessageS_l1] at hz1
    refine aw_seq ?_
    refine aw_seq ?_
    refine aw_reg [] [0, 3, 4, 11] [7] [] ⟨[(0, none, .val (.one (.sl (List.map GMessage.enc a_a)))), (3, none, .val (.one (.row 7))), (4, none, .val (.one (I (k3 : Int)))), (11, none, .val (.one (b1 (decide (((k3 : Int) : Int) < ((List.map GMessage.enc a_a).length : Int))))))], [(7, .row 87 1 (List.map GMessage.enc c2) true)]⟩ [] (by kernel_rfl) trivial (q_cast ⟨[(0, none, .val (.one (.sl (List.map GMessage.enc a_a)))), (3, none, .val (.one (.row 7))), (4, none, .val (.one (I (k3 : Int)))), (11, none, .val (.one (b1 (decide (((k3 : Int) : Int) < (a_a.length : Int))))))], [(7, .row 87 1 (List.map GMessage.enc c2) true)]⟩ (by simp only [Int.toNat_natCast, List.length_map, List.nil_append, List.map_append, List.map_cons, List.map_nil, List.map_take, List.map_drop, List.map_replicate, GMessage.enc, GMessage.zero, encI, encS, encU]) ?_)
    refine andThen_normal ?_
    refine aw_cond (decide (((k3 : Int) : Int) < (a_a.length : Int))) (by kernel_rfl) (fun _ => ?_) (fun h => absurd h (by simp; omega))
    refine aw_pick [0, 3, 4] [7] ⟨[(0, none, .val (.one (.sl (List.map GMessage.enc a_a)))), (3, none, .val (.one (.row 7))), (4, none, .val (.one (I (k3 : Int))))], [(7, .row 87 1 (List.map GMessage.enc c2) true)]⟩ (by kernel_rfl) ?_
    refine aw_skip ?_
    refine andThen_normal ?_
    refine aw_seq ?_
    refine aw_block ?_
    refine aw_reg [(18, .elem (GMessage.enc x4)), (20, .call [.agg (GMessage.enc x4)] [.agg (GMessage.enc (l_toMessage x4))] (some [[(5, 1)]]))] [0, 3, 4] [7] [] ⟨[(0, none, .val (.one (.sl (List.map GMessage.enc a_a)))), (3, none, .val (.one (.row 7))), (4, none, .val (.one (I (k3 : Int))))], [(7, .row 87 1 (setEl 1 (List.map GMessage.enc c2) (((k3 : Int)).toNat) 0 [.sl (List.map encU ((l_toMessage x4).Data))]) true)]⟩ [(0 : Int) ≤ (k3 : Int), (List.map GMessage.enc a_a)[((k3 : Int) : Int).toNat]? = some (GMessage.enc x4), ([.agg [.sl (List.map encU x4.Data)]] : List AV) = [.agg (GMessage.enc x4)], MeetsAt Try.prog 103 [.agg (GMessage.enc x4)] [.agg (GMessage.enc (l_toMessage x4))] (some [[(5, 1)]]), (0 : Int) ≤ (k3 : Int), (k3 : Int) < ((List.map GMessage.enc c2).length : Int), (((k3 : Int)).toNat) < (List.map GMessage.enc c2).length] (by kernel_rfl) ⟨(by first | omega | (simp only [List.length_map, List.length_append, List.length_cons, List.length_nil, List.length_replicate, List.length_set, decide_eq_true_eq, Bool.and_eq_true, Bool.not_eq_true', decide_eq_false_iff_not, Bool.cond_false_right, Bool.not_eq_false', Bool.cond_true_left, Bool.or_eq_false_iff, Bool.or_eq_true, bne_eq_false_iff_eq, bne_iff_ne, beq_iff_eq, beq_eq_false_iff_ne, ne_eq, Int.not_lt, Int.not_le, ge_iff_le, gt_iff_lt, maxLen] at *; omega)), (el_map hx1), (by first | rfl | simp only [Int.toNat_natCast, List.length_map, List.nil_append, List.map_append, List.map_cons, List.map_nil, List.map_take, List.map_drop, List.map_replicate]), (l_toMessage_ok x4 (by first | assumption | exact hp.el (List.mem_of_getElem? hx1) | exact hp _ (by simp []) | exact hf0 (by assumption) | exact hf1 (by assumption) (by assumption) | omega)), (by first | omega | (simp only [List.length_map, List.length_append, List.length_cons, List.length_nil, List.length_replicate, List.length_set, decide_eq_true_eq, Bool.and_eq_true, Bool.not_eq_true', decide_eq_false_iff_not, Bool.cond_false_right, Bool.not_eq_false', Bool.cond_true_left, Bool.or_eq_false_iff, Bool.or_eq_true, bne_eq_false_iff_eq, bne_iff_ne, beq_iff_eq, beq_eq_false_iff_ne, ne_eq, Int.not_lt, Int.not_le, ge_iff_le, gt_iff_lt, maxLen] at *; omega)), (by first | omega | (simp only [List.length_map, List.length_append, List.length_cons, List.length_nil, List.length_replicate, List.length_set, decide_eq_true_eq, Bool.and_eq_true, Bool.not_eq_true', decide_eq_false_iff_not, Bool.cond_false_right, Bool.not_eq_false', Bool.cond_true_left, Bool.or_eq_false_iff, Bool.or_eq_true, bne_eq_false_iff_eq, bne_iff_ne, beq_iff_eq, beq_eq_false_iff_ne, ne_eq, Int.not_lt, Int.not_le, ge_iff_le, gt_iff_lt, maxLen] at *; omega)), (by first | omega | (simp only [List.length_map, List.length_append, List.length_cons, List.length_nil, List.length_replicate, List.length_set, decide_eq_true_eq, Bool.and_eq_true, Bool.not_eq_true', decide_eq_false_iff_not, Bool.cond_false_right, Bool.not_eq_false', Bool.cond_true_left, Bool.or_eq_false_iff, Bool.or_eq_true, bne_eq_false_iff_eq, bne_iff_ne, beq_iff_eq, beq_eq_false_iff_ne, ne_eq, Int.not_lt, Int.not_le, ge_iff_le, gt_iff_lt, maxLen] at *; omega)), trivial⟩ (q_cast ⟨[(0, none, .val (.one (.sl (List.map GMessage.enc a_a)))), (3, none, .val (.one (.row 7))), (4, none, .val (.one (I (k3 : Int))))], [(7, .row 87 1 (List.map GMessage.enc (c2.set k3 (l_toMessage x4))) true)]⟩ (by (try rw [setEl_set (en := GMessage.enc) (k := 1) (ts := [.sl (List.map encU ((l_toMessage x4).Data))]) (l_toMessage x4) rfl rfl]) <;> (try simp only [Int.toNat_natCast, List.length_map, List.nil_append, List.map_append, List.map_cons, List.map_nil, List.map_take, List.map_drop, List.map_replicate, GMessage.enc, GMessage.zero, encI, encS, encU])) ?_)
    refine blk_normal ?_
    refine andThen_normal ?_
    refine aw_reg [] [0, 3, 4] [7] [] ⟨[(0, none, .val (.one (.sl (List.map GMessage.enc a_a)))), (3, none, .val (.one (.row 7))), (4, none, .val (.one (I (wr ((k3 : Int) + 1)))))], [(7, .row 87 1 (List.map GMessage.enc (c2.set k3 (l_toMessage x4))) true)]⟩ [] (by kernel_rfl) trivial (?_)
    exact ⟨a_a.length - (k3 + 1), by omega, k3 + 1, c2.set k3 (l_toMessage x4), rfl, by omega, by simp only [List.length_set, List.length_modify]; assumption, hz1, by rw [show wr ((k3 : Int) + 1) = ((k3 + 1 : Nat) : Int) from wrap_succ (by omega)]⟩

theorem l_eqInbox_ok (a_a : GInbox) (a_b : GInbox) : MeetsAt Try.prog 19 [.agg (GInbox.enc a_a), .agg (GInbox.enc a_b)] [.one (b1 (l_eqInbox a_a a_b))] none := by
  generalize hs : ([.one (b1 (l_eqInbox a_a a_b))] : List AV) = outs
  unfold l_eqInbox at hs
  refine meets_data Try.func19 rfl (by kernel_rfl) (Nat.le_of_ble_eq_true rfl) ?_
  rintro ⟨P, m, w0, B, src, hsrc⟩ rfl rfl
  refine aw_seq ?_
  refine aw_reg [] [2, 3] [2, 3] [] ⟨[(2, none, .val (.one (.ptr 2 0))), (3, none, .val (.one (.ptr 3 0)))], [(2, .box [I a_a.AS, I a_a.Source, I a_a.Next, .sl (List.map GMessage.enc a_a.Received)]), (3, .box [I a_b.AS, I a_b.Source, I a_b.Next, .sl (List.map GMessage.enc a_b.Received)])]⟩ [] (by kernel_rfl) trivial (?_)
  refine andThen_normal ?_
  refine aw_seq ?_
  refine aw_seq ?_
  refine aw_reg [] [2, 3, 9] [2, 3] [] ⟨[(2, none, .val (.one (.ptr 2 0))), (3, none, .val (.one (.ptr 3 0))), (9, none, .val (.one (b1 ((a_a.AS : Int) != a_b.AS))))], [(2, .box [I a_a.AS, I a_a.Source, I a_a.Next, .sl (List.map GMessage.enc a_a.Received)]), (3, .box [I a_b.AS, I a_b.Source, I a_b.Next, .sl (List.map GMessage.enc a_b.Received)])]⟩ [] (by kernel_rfl) trivial (?_)
  refine andThen_normal ?_
  refine aw_cond ((a_a.AS : Int) != a_b.AS) (by kernel_rfl) (fun h1 => ?_) (fun h1 => ?_)
  · rw [h1, cond_true] at hs
    refine aw_seq ?_
    refine aw_reg [] [4] [] [] ⟨[(4, none, .val (.one (b1 false)))], []⟩ [] (by kernel_rfl) trivial (?_)
    refine andThen_normal ?_
    exact aw_ret (ret_thru (ends_data (ys := [.one (b1 false)]) (.inl rfl) (by kernel_rfl) (by kernel_rfl) hs))
  · rw [h1, cond_false] at hs
    refine aw_pick [2, 3] [2, 3] ⟨[(2, none, .val (.one (.ptr 2 0))), (3, none, .val (.one (.ptr 3 0)))], [(2, .box [I a_a.AS, I a_a.Source, I a_a.Next, .sl (List.map GMessage.enc a_a.Received)]), (3, .box [I a_b.AS, I a_b.Source, I a_b.Next, .sl (List.map GMessage.enc a_b.Received)])]⟩ (by kernel_rfl) ?_
    refine aw_skip ?_
    refine andThen_normal ?_
    refine aw_seq ?_
    refine aw_seq ?_
    refine aw_reg [] [2, 3, 14] [2, 3] [] ⟨[(2, none, .val (.one (.ptr 2 0))), (3, none, .val (.one (.ptr 3 0))), (14, none, .val (.one (b1 ((a_a.Source : Int) != a_b.Source))))], [(2, .box [I a_a.AS, I a_a.Source, I a_a.Next, .sl (List.map GMessage.enc a_a.Received)]), (3, .box [I a_b.AS, I a_b.Source, I a_b.Next, .sl (List.map GMessage.enc a_b.Received)])]⟩ [] (by kernel_rfl) trivial (?_)
    refine andThen_normal ?_
    refine aw_cond ((a_a.Source : Int) != a_b.Source) (by kernel_rfl) (fun h2 => ?_) (fun h2 => ?_)
    · rw [h2, cond_true] at hs
      refine aw_seq ?_
      refine aw_reg [] [4] [] [] ⟨[(4, none, .val (.one (b1 false)))], []⟩ [] (by kernel_rfl) trivial (?_)
      refine andThen_normal ?_
      exact aw_ret (ret_thru (ends_data (ys := [.one (b1 false)]) (.inl rfl) (by kernel_rfl) (by kernel_rfl) hs))
    · rw [h2, cond_false] at hs
      refine aw_pick [2, 3] [2, 3] ⟨[(2, none, .val (.one (.ptr 2 0))), (3, none, .val (.one (.ptr 3 0)))], [(2, .box [I a_a.AS, I a_a.Source, I a_a.Next, .sl (List.map GMessage.enc a_a.Received)]), (3, .box [I a_b.AS, I a_b.Source, I a_b.Next, .sl (List.map GMessage.enc a_b.Received)])]⟩ (by kernel_rfl) ?_
      refine aw_skip ?_
      refine andThen_normal ?_
      refine aw_seq ?_
      refine aw_seq ?_
      refine aw_reg [] [2, 3, 19] [2, 3] [] ⟨[(2, none, .val (.one (.ptr 2 0))), (3, none, .val (.one (.ptr 3 0))), (19, none, .val (.one (b1 ((a_a.Next : Int) != a_b.Next))))], [(2, .box [I a_a.AS, I a_a.Source, I a_a.Next, .sl (List.map GMessage.enc a_a.Received)]), (3, .box [I a_b.AS, I a_b.Source, I a_b.Next, .sl (List.map GMessage.enc a_b.Received)])]⟩ [] (by kernel_rfl) trivial (?_)
      refine andThen_normal ?_
      refine aw_cond ((a_a.Next : Int) != a_b.Next) (by kernel_rfl) (fun h3 => ?_) (fun h3 => ?_)
      · rw [h3, cond_true] at hs
        refine aw_seq ?_
        refine aw_reg [] [4] [] [] ⟨[(4, none, .val (.one (b1 false)))], []⟩ [] (by kernel_rfl) trivial (?_)
        refine andThen_normal ?_
        exact aw_ret (ret_thru (ends_data (ys := [.one (b1 false)]) (.inl rfl) (by kernel_rfl) (by kernel_rfl) hs))
      · rw [h3, cond_false] at hs
        refine aw_pick [2, 3] [2, 3] ⟨[(2, none, .val (.one (.ptr 2 0))), (3, none, .val (.one (.ptr 3 0)))], [(2, .box [I a_a.AS, I a_a.Source, I a_a.Next, .sl (List.map GMessage.enc a_a.Received)]), (3, .box [I a_b.AS, I a_b.Source, I a_b.Next, .sl (List.map GMessage.enc a_b.Received)])]⟩ (by kernel_rfl) ?_
        refine aw_skip ?_
        refine andThen_normal ?_
        refine aw_seq ?_
        refine aw_seq ?_
        refine aw_reg [(24, .call [.one (.sl (List.map GMessage.enc a_a.Received)), .one (.sl (List.map GMessage.enc a_b.Received))] [.one (b1 (l_eqMessageS a_a.Received a_b.Received))] (none))] [25] [] [] ⟨[(25, none, .val (.one (b1 (!(l_eqMessageS a_a.Received a_b.Received)))))], []⟩ [([.one (.sl (List.map GMessage.enc a_a.Received)), .one (.sl (List.map GMessage.enc a_b.Received))] : List AV) = [.one (.sl (List.map GMessage.enc a_a.Received)), .one (.sl (List.map GMessage.enc a_b.Received))], MeetsAt Try.prog 59 [.one (.sl (List.map GMessage.enc a_a.Received)), .one (.sl (List.map GMessage.enc a_b.Received))] [.one (b1 (l_eqMessageS a_a.Received a_b.Received))] (none)] (by kernel_rfl) ⟨rfl, (l_eqMessageS_ok a_a.Received a_b.Received), trivial⟩ (?_)
        refine andThen_normal ?_
        refine aw_cond (!(l_eqMessageS a_a.Received a_b.Received)) (by kernel_rfl) (fun h4 => ?_) (fun h4 => ?_)
        · rw [h4, cond_true] at hs
          refine aw_seq ?_
          refine aw_reg [] [4] [] [] ⟨[(4, none, .val (.one (b1 false)))], []⟩ [] (by kernel_rfl) trivial (?_)
          refine andThen_normal ?_
          exact aw_ret (ret_thru (ends_data (ys := [.one (b1 false)]) (.inl rfl) (by kernel_rfl) (by kernel_rfl) hs))
        · rw [h4, cond_false] at hs
          refine aw_pick [] [] ⟨[], []⟩ (by kernel_rfl) ?_
          refine aw_skip ?_
          refine andThen_normal ?_
          refine aw_seq ?_
          refine aw_reg [] [4] [] [] ⟨[(4, none, .val (.one (b1 true)))], []⟩ [] (by kernel_rfl) trivial (?_)
          refine andThen_normal ?_
          exact aw_ret (ends_data (ys := [.one (b1 true)]) (.inl rfl) (by kernel_rfl) (by kernel_rfl) hs)

theorem l_szInbox_ok (a_a : GInbox) (a_left : Int) : MeetsAt Try.prog 22 [.agg (GInbox.enc a_a), .one (I a_left)] [.one (I (l_szInbox a_a a_left))] none := by
  generalize hs : ([.one (I (l_szInbox a_a a_left))] : List AV) = outs
  unfold l_szInbox at hs
  refine meets_data Try.func22 rfl (by kernel_rfl) (Nat.le_of_ble_eq_true rfl) ?_
  rintro ⟨P, m, w0, B, src, hsrc⟩ rfl rfl
  refine aw_seq ?_
  refine aw_reg [] [1, 2] [2] [] ⟨[(1, none, .val (.one (I a_left))), (2, none, .val (.one (.ptr 2 0)))], [(2, .box [I a_a.AS, I a_a.Source, I a_a.Next, .sl (List.map GMessage.enc a_a.Received)])]⟩ [] (by kernel_rfl) trivial (?_)
  refine andThen_normal ?_
  refine aw_seq ?_
  refine aw_reg [(8, .call [.one (.sl (List.map GMessage.enc a_a.Received)), .one (I a_left)] [.one (I (l_szMessageS a_a.Received a_left))] (none))] [1] [] [] ⟨[(1, none, .val (.one (I (l_szMessageS a_a.Received a_left))))], []⟩ [([.one (.sl (List.map GMessage.enc a_a.Received)), .one (I a_left)] : List AV) = [.one (.sl (List.map GMessage.enc a_a.Received)), .one (I a_left)], MeetsAt Try.prog 62 [.one (.sl (List.map GMessage.enc a_a.Received)), .one (I a_left)] [.one (I (l_szMessageS a_a.Received a_left))] (none)] (by kernel_rfl) ⟨rfl, (l_szMessageS_ok a_a.Received a_left), trivial⟩ (?_)
  refine andThen_normal ?_
  refine aw_seq ?_
  refine aw_seq ?_
  refine aw_reg [] [1, 10] [] [] ⟨[(1, none, .val (.one (I (l_szMessageS a_a.Received a_left)))), (10, none, .val (.one (b1 (decide (((l_szMessageS a_a.Received a_left) : Int) < 0)))))], []⟩ [] (by kernel_rfl) trivial (?_)
  refine andThen_normal ?_
  refine aw_cond (decide (((l_szMessageS a_a.Received a_left) : Int) < 0)) (by kernel_rfl) (fun h1 => ?_) (fun h1 => ?_)
  · rw [h1, cond_true] at hs
    refine aw_seq ?_
    refine aw_reg [] [4] [] [] ⟨[(4, none, .val (.one (I (-1))))], []⟩ [] (by kernel_rfl) trivial (?_)
    refine andThen_normal ?_
    exact aw_ret (ret_thru (ends_data (ys := [.one (I (-1))]) (.inl rfl) (by kernel_rfl) (by kernel_rfl) hs))
  · rw [h1, cond_false] at hs
    refine aw_pick [1] [] ⟨[(1, none, .val (.one (I (l_szMessageS a_a.Received a_left))))], []⟩ (by kernel_rfl) ?_
    refine aw_skip ?_
    refine andThen_normal ?_
    refine aw_seq ?_
    refine aw_reg [] [4] [] [] ⟨[(4, none, .val (.one (I (l_szMessageS a_a.Received a_left))))], []⟩ [] (by kernel_rfl) trivial (?_)
    refine andThen_normal ?_
    exact aw_ret (ends_data (ys := [.one (I (l_szMessageS a_a.Received a_left))]) (.inl rfl) (by kernel_rfl) (by kernel_rfl) hs)

theorem l_toInbox_ok (a_a : GInbox) (hp : SmL a_a.enc) : MeetsAt Try.prog 24 [.agg (GInbox.enc a_a)] [.agg (GInbox.enc (l_toInbox a_a))] (some [[(0, 0), (0, 0), (0, 0), (87, 1)]]) := by
  generalize hs : ([.agg (GInbox.enc (l_toInbox a_a))] : List AV) = outs
  unfold l_toInbox at hs
  refine meets_fresh Try.func24 rfl (by kernel_rfl) (Nat.le_of_ble_eq_true rfl) ?_
  rintro ⟨P, m, w0, B, src, hsrc⟩ rfl rfl
  refine aw_seq ?_
  refine aw_reg [] [1, 2] [1, 2] [] ⟨[(1, none, .val (.one (.ptr 1 0))), (2, none, .val (.one (.ptr 2 0)))], [(1, .box [I a_a.AS, I a_a.Source, I a_a.Next, .sl (List.map GMessage.enc a_a.Received)]), (2, .box [I 0, I 0, I 0, .nil])]⟩ [] (by kernel_rfl) trivial (?_)
  refine andThen_normal ?_
  refine aw_seq ?_
  refine aw_reg [] [1, 2, 3] [1, 2, 3] [] ⟨[(1, none, .val (.one (.ptr 1 0))), (2, none, .val (.one (.ptr 2 0))), (3, none, .val (.one (.ptr 3 0)))], [(1, .box [I a_a.AS, I a_a.Source, I a_a.Next, .sl (List.map GMessage.enc a_a.Received)]), (2, .box [I 0, I 0, I 0, .nil]), (3, .box [I 0, I 0, I 0, .nil])]⟩ [] (by kernel_rfl) trivial (?_)
  refine andThen_normal ?_
  refine aw_seq ?_
  refine aw_reg [] [1, 2, 3] [1, 2, 3] [] ⟨[(1, none, .val (.one (.ptr 1 0))), (2, none, .val (.one (.ptr 2 0))), (3, none, .val (.one (.ptr 3 0)))], [(1, .box [I a_a.AS, I a_a.Source, I a_a.Next, .sl (List.map GMessage.enc a_a.Received)]), (2, .box [I 0, I 0, I 0, .nil]), (3, .box [I a_a.AS, I 0, I 0, .nil])]⟩ [] (by kernel_rfl) trivial (?_)
  refine andThen_normal ?_
  refine aw_seq ?_
  refine aw_reg [] [1, 2, 3] [1, 2, 3] [] ⟨[(1, none, .val (.one (.ptr 1 0))), (2, none, .val (.one (.ptr 2 0))), (3, none, .val (.one (.ptr 3 0)))], [(1, .box [I a_a.AS, I a_a.Source, I a_a.Next, .sl (List.map GMessage.enc a_a.Received)]), (2, .box [I 0, I 0, I 0, .nil]), (3, .box [I a_a.AS, I a_a.Source, I 0, .nil])]⟩ [] (by kernel_rfl) trivial (?_)
  refine andThen_normal ?_
  refine aw_seq ?_
  refine aw_reg [] [1, 2, 3] [1, 2, 3] [] ⟨[(1, none, .val (.one (.ptr 1 0))), (2, none, .val (.one (.ptr 2 0))), (3, none, .val (.one (.ptr 3 0)))], [(1, .box [I a_a.AS, I a_a.Source, I a_a.Next, .sl (List.map GMessage.enc a_a.Received)]), (2, .box [I 0, I 0, I 0, .nil]), (3, .box [I a_a.AS, I a_a.Source, I a_a.Next, .nil])]⟩ [] (by kernel_rfl) trivial (?_)
  refine andThen_normal ?_
  refine aw_seq ?_
  refine aw_reg [(15, .call [.one (.sl (List.map GMessage.enc a_a.Received))] [.one (.sl (List.map GMessage.enc (l_toMessageS a_a.Received)))] (some [[(87, 1)]]))] [2, 3] [2, 3, 1240] [] ⟨[(2, none, .val (.one (.ptr 2 0))), (3, none, .val (.one (.ptr 3 0)))], [(2, .box [I 0, I 0, I 0, .nil]), (3, .box [I a_a.AS, I a_a.Source, I a_a.Next, .row 1240]), (1240, .row 87 1 (List.map GMessage.enc (l_toMessageS a_a.Received)) true)]⟩ [([.one (.sl (List.map GMessage.enc a_a.Received))] : List AV) = [.one (.sl (List.map GMessage.enc a_a.Received))], MeetsAt Try.prog 63 [.one (.sl (List.map GMessage.enc a_a.Received))] [.one (.sl (List.map GMessage.enc (l_toMessageS a_a.Received)))] (some [[(87, 1)]])] (by kernel_rfl) ⟨rfl, (l_toMessageS_ok a_a.Received (by first | assumption | exact hp _ (by simp [GInbox.enc]) | exact hf0 (by assumption) | exact hf1 (by assumption) (by assumption) | omega)), trivial⟩ (?_)
  refine andThen_normal ?_
  refine aw_seq ?_
  refine aw_reg [] [2] [2, 1240] [] ⟨[(2, none, .val (.one (.ptr 2 0)))], [(2, .box [I a_a.AS, I a_a.Source, I a_a.Next, .row 1240]), (1240, .row 87 1 (List.map GMessage.enc (l_toMessageS a_a.Received)) true)]⟩ [] (by kernel_rfl) trivial (?_)
  refine andThen_normal ?_
  exact aw_ret (ends_fresh (ys := [.agg [I a_a.AS, I a_a.Source, I a_a.Next, .row 1240]]) (ids := [1240]) (.inl rfl) (by kernel_rfl) (by kernel_rfl) rfl hs)

theorem l_FnExactValidInbox_ok (a_aX : GInbox) (hw0 : WfL a_aX.enc) : MeetsAt Try.prog 5 [.agg (GInbox.enc a_aX)] [.one (b1 (l_FnExactValidInbox a_aX))] none := by
  generalize hs : ([.one (b1 (l_FnExactValidInbox a_aX))] : List AV) = outs
  unfold l_FnExactValidInbox at hs
  refine meets_data Try.func5 rfl (by kernel_rfl) (Nat.le_of_ble_eq_true rfl) ?_
  rintro ⟨P, m, w0, B, src, hsrc⟩ rfl rfl
  have hf0 := (sz_Inbox a_aX 1048576 hw0 (by decide) (by decide)).sm
  refine aw_seq ?_
  refine aw_reg [] [1] [1] [] ⟨[(1, none, .val (.one (.ptr 1 0)))], [(1, .box [I a_aX.AS, I a_aX.Source, I a_aX.Next, .sl (List.map GMessage.enc a_aX.Received)])]⟩ [] (by kernel_rfl) trivial (?_)
  refine andThen_normal ?_
  refine aw_seq ?_
  refine aw_reg [] [1, 3] [1] [] ⟨[(1, none, .val (.one (.ptr 1 0))), (3, none, .val (.one (I 1048576)))], [(1, .box [I a_aX.AS, I a_aX.Source, I a_aX.Next, .sl (List.map GMessage.enc a_aX.Received)])]⟩ [] (by kernel_rfl) trivial (?_)
  refine andThen_normal ?_
  refine aw_seq ?_
  refine aw_reg [(9, .call [.agg (GInbox.enc a_aX), .one (I 1048576)] [.one (I (l_szInbox a_aX 1048576))] (none))] [1, 3] [1] [] ⟨[(1, none, .val (.one (.ptr 1 0))), (3, none, .val (.one (I (l_szInbox a_aX 1048576))))], [(1, .box [I a_aX.AS, I a_aX.Source, I a_aX.Next, .sl (List.map GMessage.enc a_aX.Received)])]⟩ [([.agg [I a_aX.AS, I a_aX.Source, I a_aX.Next, .sl (List.map GMessage.enc a_aX.Received)], .one (I 1048576)] : List AV) = [.agg (GInbox.enc a_aX), .one (I 1048576)], MeetsAt Try.prog 22 [.agg (GInbox.enc a_aX), .one (I 1048576)] [.one (I (l_szInbox a_aX 1048576))] (none)] (by kernel_rfl) ⟨(by first | rfl | simp only [Int.toNat_natCast, List.length_map, List.nil_append, List.map_append, List.map_cons, List.map_nil, List.map_take, List.map_drop, List.map_replicate]), (l_szInbox_ok a_aX 1048576), trivial⟩ (?_)
  refine andThen_normal ?_
  refine aw_seq ?_
  refine aw_seq ?_
  refine aw_reg [] [1, 11] [1] [] ⟨[(1, none, .val (.one (.ptr 1 0))), (11, none, .val (.one (b1 (decide (((l_szInbox a_aX 1048576) : Int) < 0)))))], [(1, .box [I a_aX.AS, I a_aX.Source, I a_aX.Next, .sl (List.map GMessage.enc a_aX.Received)])]⟩ [] (by kernel_rfl) trivial (?_)
  refine andThen_normal ?_
  refine aw_cond (decide (((l_szInbox a_aX 1048576) : Int) < 0)) (by kernel_rfl) (fun h1 => ?_) (fun h1 => ?_)
  · rw [h1, cond_true] at hs
    refine aw_seq ?_
    refine aw_reg [] [2] [] [] ⟨[(2, none, .val (.one (b1 true)))], []⟩ [] (by kernel_rfl) trivial (?_)
    refine andThen_normal ?_
    exact aw_ret (ret_thru (ends_data (ys := [.one (b1 true)]) (.inl rfl) (by kernel_rfl) (by kernel_rfl) hs))
  · rw [h1, cond_false] at hs
    refine aw_pick [1] [1] ⟨[(1, none, .val (.one (.ptr 1 0)))], [(1, .box [I a_aX.AS, I a_aX.Source, I a_aX.Next, .sl (List.map GMessage.enc a_aX.Received)])]⟩ (by kernel_rfl) ?_
    refine aw_skip ?_
    refine andThen_normal ?_
    refine aw_seq ?_
    refine aw_reg [(13, .call [.agg (GInbox.enc a_aX)] [.agg (GInbox.enc (l_toInbox a_aX))] (some [[(0, 0), (0, 0), (0, 0), (87, 1)]])), (14, .call [.agg (GInbox.enc (l_toInbox a_aX))] [.one (b1 (s_ValidInbox (l_toInbox a_aX)))] (none))] [1, 4] [1] [] ⟨[(1, none, .val (.one (.ptr 1 0))), (4, none, .val (.one (b1 (s_ValidInbox (l_toInbox a_aX)))))], [(1, .box [I a_aX.AS, I a_aX.Source, I a_aX.Next, .sl (List.map GMessage.enc a_aX.Received)])]⟩ [([.agg [I a_aX.AS, I a_aX.Source, I a_aX.Next, .sl (List.map GMessage.enc a_aX.Received)]] : List AV) = [.agg (GInbox.enc a_aX)], MeetsAt Try.prog 24 [.agg (GInbox.enc a_aX)] [.agg (GInbox.enc (l_toInbox a_aX))] (some [[(0, 0), (0, 0), (0, 0), (87, 1)]]), ([.agg [I ((l_toInbox a_aX).AS), I ((l_toInbox a_aX).Source), I ((l_toInbox a_aX).Next), .sl (List.map GMessage.enc ((l_toInbox a_aX).Received))]] : List AV) = [.agg (GInbox.enc (l_toInbox a_aX))], MeetsAt Try.prog 23 [.agg (GInbox.enc (l_toInbox a_aX))] [.one (b1 (s_ValidInbox (l_toInbox a_aX)))] (none)] (by kernel_rfl) ⟨(by first | rfl | simp only [Int.toNat_natCast, List.length_map, List.nil_append, List.map_append, List.map_cons, List.map_nil, List.map_take, List.map_drop, List.map_replicate]), (l_toInbox_ok a_aX (by first | assumption | exact hp _ (by simp [GInbox.enc]) | exact hf0 (by assumption) | exact hf1 (by assumption) (by assumption) | omega)), (by first | rfl | simp only [Int.toNat_natCast, List.length_map, List.nil_append, List.map_append, List.map_cons, List.map_nil, List.map_take, List.map_drop, List.map_replicate]), (s_ValidInbox_ok (l_toInbox a_aX)), trivial⟩ (?_)
    refine andThen_normal ?_
    refine aw_seq ?_
    refine aw_reg [(16, .call [.agg (GInbox.enc a_aX)] [.agg (GInbox.enc (l_toInbox a_aX))] (some [[(0, 0), (0, 0), (0, 0), (87, 1)]]))] [1, 4, 5] [1, 5, 1259] [] ⟨[(1, none, .val (.one (.ptr 1 0))), (4, none, .val (.one (b1 (s_ValidInbox (l_toInbox a_aX))))), (5, none, .val (.one (.ptr 5 0)))], [(1, .box [I a_aX.AS, I a_aX.Source, I a_aX.Next, .sl (List.map GMessage.enc a_aX.Received)]), (5, .box [I ((l_toInbox a_aX).AS), I ((l_toInbox a_aX).Source), I ((l_toInbox a_aX).Next), .row 1259]), (1259, .row 87 1 (List.map GMessage.enc ((l_toInbox a_aX).Received)) true)]⟩ [([.agg [I a_aX.AS, I a_aX.Source, I a_aX.Next, .sl (List.map GMessage.enc a_aX.Received)]] : List AV) = [.agg (GInbox.enc a_aX)], MeetsAt Try.prog 24 [.agg (GInbox.enc a_aX)] [.agg (GInbox.enc (l_toInbox a_aX))] (some [[(0, 0), (0, 0), (0, 0), (87, 1)]])] (by kernel_rfl) ⟨(by first | rfl | simp only [Int.toNat_natCast, List.length_map, List.nil_append, List.map_append, List.map_cons, List.map_nil, List.map_take, List.map_drop, List.map_replicate]), (l_toInbox_ok a_aX (by first | assumption | exact hp _ (by simp [GInbox.enc]) | exact hf0 (by assumption) | exact hf1 (by assumption) (by assumption) | omega)), trivial⟩ (?_)
    refine andThen_normal ?_
    refine aw_seq ?_
    refine aw_reg [(18, .call [.agg (GInbox.enc (l_toInbox a_aX))] [.one (b1 (i_ValidInbox (l_toInbox a_aX)))] (none))] [1, 4, 5, 6] [1, 5, 1259] [] ⟨[(1, none, .val (.one (.ptr 1 0))), (4, none, .val (.one (b1 (s_ValidInbox (l_toInbox a_aX))))), (5, none, .val (.one (.ptr 5 0))), (6, none, .val (.one (b1 (i_ValidInbox (l_toInbox a_aX)))))], [(1, .box [I a_aX.AS, I a_aX.Source, I a_aX.Next, .sl (List.map GMessage.enc a_aX.Received)]), (5, .box [I ((l_toInbox a_aX).AS), I ((l_toInbox a_aX).Source), I ((l_toInbox a_aX).Next), .row 1259]), (1259, .row 87 1 (List.map GMessage.enc ((l_toInbox a_aX).Received)) true)]⟩ [([.agg [I ((l_toInbox a_aX).AS), I ((l_toInbox a_aX).Source), I ((l_toInbox a_aX).Next), .sl (List.map GMessage.enc ((l_toInbox a_aX).Received))]] : List AV) = [.agg (GInbox.enc (l_toInbox a_aX))], MeetsAt Try.prog 25 [.agg (GInbox.enc (l_toInbox a_aX))] [.one (b1 (i_ValidInbox (l_toInbox a_aX)))] (none)] (by kernel_rfl) ⟨(by first | rfl | simp only [Int.toNat_natCast, List.length_map, List.nil_append, List.map_append, List.map_cons, List.map_nil, List.map_take, List.map_drop, List.map_replicate]), (i_ValidInbox_ok (l_toInbox a_aX)), trivial⟩ (?_)
    refine andThen_normal ?_
    refine aw_seq ?_
    refine aw_seq ?_
    refine aw_reg [] [1, 5, 21] [1, 5, 1259] [] ⟨[(1, none, .val (.one (.ptr 1 0))), (5, none, .val (.one (.ptr 5 0))), (21, none, .val (.one (b1 (!((i_ValidInbox (l_toInbox a_aX)) == (s_ValidInbox (l_toInbox a_aX)))))))], [(1, .box [I a_aX.AS, I a_aX.Source, I a_aX.Next, .sl (List.map GMessage.enc a_aX.Received)]), (5, .box [I ((l_toInbox a_aX).AS), I ((l_toInbox a_aX).Source), I ((l_toInbox a_aX).Next), .row 1259]), (1259, .row 87 1 (List.map GMessage.enc ((l_toInbox a_aX).Received)) true)]⟩ [] (by kernel_rfl) trivial (?_)
    refine andThen_normal ?_
    refine aw_cond (!((i_ValidInbox (l_toInbox a_aX)) == (s_ValidInbox (l_toInbox a_aX)))) (by kernel_rfl) (fun h2 => ?_) (fun h2 => ?_)
    · rw [h2, cond_true] at hs
      refine aw_seq ?_
      refine aw_reg [] [2] [] [] ⟨[(2, none, .val (.one (b1 false)))], []⟩ [] (by kernel_rfl) trivial (?_)
      refine andThen_normal ?_
      exact aw_ret (ret_thru (ends_data (ys := [.one (b1 false)]) (.inl rfl) (by kernel_rfl) (by kernel_rfl) hs))
    · rw [h2, cond_false] at hs
      refine aw_pick [1, 5] [1, 5, 1259] ⟨[(1, none, .val (.one (.ptr 1 0))), (5, none, .val (.one (.ptr 5 0)))], [(1, .box [I a_aX.AS, I a_aX.Source, I a_aX.Next, .sl (List.map GMessage.enc a_aX.Received)]), (5, .box [I ((l_toInbox a_aX).AS), I ((l_toInbox a_aX).Source), I ((l_toInbox a_aX).Next), .row 1259]), (1259, .row 87 1 (List.map GMessage.enc ((l_toInbox a_aX).Received)) true)]⟩ (by kernel_rfl) ?_
      refine aw_skip ?_
      refine andThen_normal ?_
      refine aw_seq ?_
      refine aw_seq ?_
      refine aw_drw [(24, .call [.agg (GInbox.enc a_aX)] [.agg (GInbox.enc (l_toInbox a_aX))] (some [[(0, 0), (0, 0), (0, 0), (87, 1)]])), (25, .call [.agg (GInbox.enc (l_toInbox a_aX)), .agg (GInbox.enc (l_toInbox a_aX))] [.one (b1 (l_eqInbox (l_toInbox a_aX) (l_toInbox a_aX)))] (none))] [0, 1, 2, 3, 4] [26] [] [] ⟨[(26, none, .val (.one (b1 (!(l_eqInbox (l_toInbox a_aX) (l_toInbox a_aX))))))], []⟩ [([.agg [I a_aX.AS, I a_aX.Source, I a_aX.Next, .sl (List.map GMessage.enc a_aX.Received)]] : List AV) = [.agg (GInbox.enc a_aX)], MeetsAt Try.prog 24 [.agg (GInbox.enc a_aX)] [.agg (GInbox.enc (l_toInbox a_aX))] (some [[(0, 0), (0, 0), (0, 0), (87, 1)]]), ([.agg [I ((l_toInbox a_aX).AS), I ((l_toInbox a_aX).Source), I ((l_toInbox a_aX).Next), .sl (List.map GMessage.enc ((l_toInbox a_aX).Received))], .agg [I ((l_toInbox a_aX).AS), I ((l_toInbox a_aX).Source), I ((l_toInbox a_aX).Next), .sl (List.map GMessage.enc ((l_toInbox a_aX).Received))]] : List AV) = [.agg (GInbox.enc (l_toInbox a_aX)), .agg (GInbox.enc (l_toInbox a_aX))], MeetsAt Try.prog 19 [.agg (GInbox.enc (l_toInbox a_aX)), .agg (GInbox.enc (l_toInbox a_aX))] [.one (b1 (l_eqInbox (l_toInbox a_aX) (l_toInbox a_aX)))] (none)] (by kernel_rfl) (by kernel_rfl) (Nat.le_of_ble_eq_true rfl) (by kernel_rfl) ⟨(by first | rfl | simp only [Int.toNat_natCast, List.length_map, List.nil_append, List.map_append, List.map_cons, List.map_nil, List.map_take, List.map_drop, List.map_replicate]), (l_toInbox_ok a_aX (by first | assumption | exact hp _ (by simp [GInbox.enc]) | exact hf0 (by assumption) | exact hf1 (by assumption) (by assumption) | omega)), (by first | rfl | simp only [Int.toNat_natCast, List.length_map, List.nil_append, List.map_append, List.map_cons, List.map_nil, List.map_take, List.map_drop, List.map_replicate]), (l_eqInbox_ok (l_toInbox a_aX) (l_toInbox a_aX)), trivial⟩ (?_)
      refine andThen_normal ?_
      refine aw_cond (!(l_eqInbox (l_toInbox a_aX) (l_toInbox a_aX))) (by kernel_rfl) (fun h3 => ?_) (fun h3 => ?_)
      · rw [h3, cond_true] at hs
        refine aw_seq ?_
        refine aw_reg [] [2] [] [] ⟨[(2, none, .val (.one (b1 false)))], []⟩ [] (by kernel_rfl) trivial (?_)
        refine andThen_normal ?_
        exact aw_ret (ret_thru (ends_data (ys := [.one (b1 false)]) (.inl rfl) (by kernel_rfl) (by kernel_rfl) hs))
      · rw [h3, cond_false] at hs
        refine aw_pick [] [] ⟨[], []⟩ (by kernel_rfl) ?_
        refine aw_skip ?_
        refine andThen_normal ?_
        refine aw_seq ?_
        refine aw_reg [] [2] [] [] ⟨[(2, none, .val (.one (b1 true)))], []⟩ [] (by kernel_rfl) trivial (?_)
        refine andThen_normal ?_
        exact aw_ret (ends_data (ys := [.one (b1 true)]) (.inl rfl) (by kernel_rfl) (by kernel_rfl) hs)

end Go.Proofs.Ytdmiboplfgmgiaa
