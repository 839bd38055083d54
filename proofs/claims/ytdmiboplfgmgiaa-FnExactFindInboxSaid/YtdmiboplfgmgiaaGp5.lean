/-
  Each function that law FnExactFindInbox reaches computes what its definition says. Printed by a program. Conditions: those of each theorem.
-/
import Derived.Test.YtdmiboplfgmgiaaGl
import Derived.Test.YtdmiboplfgmgiaaProg
import Derived.Test.YtdmiboplfgmgiaaGp3
set_option linter.unusedVariables false
set_option linter.unusedSimpArgs false
set_option maxRecDepth 100000
namespace Go.Proofs.Ytdmiboplfgmgiaa
open Go.Ab
theorem s_FindInbox_ok (a_l : List GInbox) (a_at : Int) (a_from : Int) : MeetsAt Try.prog 29 [.one (.sl (List.map GInbox.enc a_l)), .one (I a_at), .one (I a_from)] [.one (I (s_FindInbox a_l a_at a_from))] none := by
  generalize hs : ([.one (I (s_FindInbox a_l a_at a_from))] : List AV) = outs
  unfold s_FindInbox at hs
  refine meets_data Try.func29 rfl (by kernel_rfl) (Nat.le_of_ble_eq_true rfl) ?_
  rintro ⟨P, m, w0, B, src, hsrc⟩ rfl rfl
  refine aw_seq ?_
  refine aw_reg [] [0, 1, 2] [] [] ⟨[(0, none, .val (.one (.sl (List.map GInbox.enc a_l)))), (1, none, .val (.one (I a_at))), (2, none, .val (.one (I a_from)))], []⟩ [] (by kernel_rfl) trivial (?_)
  refine andThen_normal ?_
  refine aw_seq ?_
  refine aw_seq ?_
  refine aw_reg [] [0, 1, 2, 7] [] [] ⟨[(0, none, .val (.one (.sl (List.map GInbox.enc a_l)))), (1, none, .val (.one (I a_at))), (2, none, .val (.one (I a_from))), (7, none, .val (.one (I 0)))], []⟩ [] (by kernel_rfl) trivial (?_)
  refine andThen_normal ?_
  refine aw_block ?_
  refine aw_len 0 (List.map GInbox.enc a_l) (by kernel_rfl) (fun hl1 => ?_)
  rw [List.length_map] at hl1
  generalize hz1 : s_FindInbox_l1 a_at a_from a_l 0 = z1 at hs
  refine aw_loop (fun m st => ∃ (k2 : Nat), m = a_l.length - k2 ∧ k2 ≤ a_l.length ∧ s_FindInbox_l1 a_at a_from (a_l.drop k2) k2 = z1 ∧ st = ⟨[(0, none, .val (.one (.sl (List.map GInbox.enc a_l)))), (1, none, .val (.one (I a_at))), (2, none, .val (.one (I a_from))), (7, none, .val (.one (I (k2 : Int))))], []⟩) (a_l.length) ⟨0, rfl, Nat.zero_le _, hz1, by kernel_rfl⟩ ?_
  clear hz1
  rintro m s ⟨k2, rfl, hk1, hz1, rfl⟩
  rcases drop_cases a_l k2 hk1 with ⟨hd1, rfl⟩ | ⟨x3, hd1, hx1, hlt1⟩
  · rw [hd1, s_FindInbox_l1] at hz1
    refine aw_seq ?_
    refine aw_seq ?_
    refine aw_reg [] [0, 1, 2, 7, 11] [] [] ⟨[(0, none, .val (.one (.sl (List.map GInbox.enc a_l)))), (1, none, .val (.one (I a_at))), (2, none, .val (.one (I a_from))), (7, none, .val (.one (I (a_l.length : Int)))), (11, none, .val (.one (b1 (decide (((a_l.length : Int) : Int) < ((List.map GInbox.enc a_l).length : Int))))))], []⟩ [] (by kernel_rfl) trivial (q_cast ⟨[(0, none, .val (.one (.sl (List.map GInbox.enc a_l)))), (1, none, .val (.one (I a_at))), (2, none, .val (.one (I a_from))), (7, none, .val (.one (I (a_l.length : Int)))), (11, none, .val (.one (b1 (decide (((a_l.length : Int) : Int) < (a_l.length : Int))))))], []⟩ (by simp only [Int.toNat_natCast, List.length_map, List.nil_append, List.map_append, List.map_cons, List.map_nil, List.map_take, List.map_drop, List.map_replicate, encI, encS, encU]) ?_)
    refine andThen_normal ?_
    refine aw_cond (decide (((a_l.length : Int) : Int) < (a_l.length : Int))) (by kernel_rfl) (fun h => absurd h (by simp)) (fun _ => ?_)
    refine aw_pick [] [] ⟨[], []⟩ (by kernel_rfl) ?_
    refine aw_exit (exit_thru (exit_thru (exit_here 0 (?_))))
    rw [← hz1, Sum.elim_inr] at hs
    refine andThen_normal ?_
    refine aw_seq ?_
    refine aw_reg [] [6] [] [] ⟨[(6, none, .val (.one (I (-1))))], []⟩ [] (by kernel_rfl) trivial (?_)
    refine andThen_normal ?_
    exact aw_ret (ends_data (ys := [.one (I (-1))]) (.inl rfl) (by kernel_rfl) (by kernel_rfl) hs)
  · rw [hd1, s_FindInbox_l1] at hz1
    refine aw_seq ?_
    refine aw_seq ?_
    refine aw_reg [] [0, 1, 2, 7, 11] [] [] ⟨[(0, none, .val (.one (.sl (List.map GInbox.enc a_l)))), (1, none, .val (.one (I a_at))), (2, none, .val (.one (I a_from))), (7, none, .val (.one (I (k2 : Int)))), (11, none, .val (.one (b1 (decide (((k2 : Int) : Int) < ((List.map GInbox.enc a_l).length : Int))))))], []⟩ [] (by kernel_rfl) trivial (q_cast ⟨[(0, none, .val (.one (.sl (List.map GInbox.enc a_l)))), (1, none, .val (.one (I a_at))), (2, none, .val (.one (I a_from))), (7, none, .val (.one (I (k2 : Int)))), (11, none, .val (.one (b1 (decide (((k2 : Int) : Int) < (a_l.length : Int))))))], []⟩ (by simp only [Int.toNat_natCast, List.length_map, List.nil_append, List.map_append, List.map_cons, List.map_nil, List.map_take, List.map_drop, List.map_replicate, encI, encS, encU]) ?_)
    refine andThen_normal ?_
    refine aw_cond (decide (((k2 : Int) : Int) < (a_l.length : Int))) (by kernel_rfl) (fun _ => ?_) (fun h => absurd h (by simp; omega))
    refine aw_pick [0, 1, 2, 7] [] ⟨[(0, none, .val (.one (.sl (List.map GInbox.enc a_l)))), (1, none, .val (.one (I a_at))), (2, none, .val (.one (I a_from))), (7, none, .val (.one (I (k2 : Int))))], []⟩ (by kernel_rfl) ?_
    refine aw_skip ?_
    refine andThen_normal ?_
    refine aw_seq ?_
    refine aw_block ?_
    refine aw_seq ?_
    refine aw_reg [(16, .elem (GInbox.enc x3)), (24, .elem (GInbox.enc x3))] [0, 1, 2, 7, 29] [] [] ⟨[(0, none, .val (.one (.sl (List.map GInbox.enc a_l)))), (1, none, .val (.one (I a_at))), (2, none, .val (.one (I a_from))), (7, none, .val (.one (I (k2 : Int)))), (29, none, .val (.one (b1 (cond ((x3.AS : Int) == a_at) ((x3.Source : Int) == a_from) false))))], []⟩ [(0 : Int) ≤ (k2 : Int), (List.map GInbox.enc a_l)[((k2 : Int) : Int).toNat]? = some (GInbox.enc x3), ((x3.AS : Int) == a_at) = true → (0 : Int) ≤ (k2 : Int), ((x3.AS : Int) == a_at) = true → (List.map GInbox.enc a_l)[((k2 : Int) : Int).toNat]? = some (GInbox.enc x3), ((x3.AS : Int) == a_at) = true → ((x3.AS : Int) == a_at) = true, ((x3.AS : Int) == a_at) = true → ((x3.AS : Int) == a_at) = true, ((x3.AS : Int) == a_at) = true → ((x3.AS : Int) == a_at) = true, ((x3.AS : Int) == a_at) = true → ((x3.AS : Int) == a_at) = true, ((x3.AS : Int) == a_at) = true → ((x3.AS : Int) == a_at) = true, ((x3.AS : Int) == a_at) = true → ((x3.AS : Int) == a_at) = true, ((x3.AS : Int) == a_at) = true → ((x3.AS : Int) == a_at) = true] (by kernel_rfl) ⟨(by first | omega | (simp only [List.length_map, List.length_append, List.length_cons, List.length_nil, List.length_replicate, List.length_set, decide_eq_true_eq, Bool.and_eq_true, Bool.not_eq_true', decide_eq_false_iff_not, Bool.cond_false_right, Bool.not_eq_false', Bool.cond_true_left, Bool.or_eq_false_iff, Bool.or_eq_true, bne_eq_false_iff_eq, bne_iff_ne, beq_iff_eq, beq_eq_false_iff_ne, ne_eq, Int.not_lt, Int.not_le, ge_iff_le, gt_iff_lt, maxLen] at *; omega)), (el_map hx1), (fun hg => (by first | omega | (simp only [List.length_map, List.length_append, List.length_cons, List.length_nil, List.length_replicate, List.length_set, decide_eq_true_eq, Bool.and_eq_true, Bool.not_eq_true', decide_eq_false_iff_not, Bool.cond_false_right, Bool.not_eq_false', Bool.cond_true_left, Bool.or_eq_false_iff, Bool.or_eq_true, bne_eq_false_iff_eq, bne_iff_ne, beq_iff_eq, beq_eq_false_iff_ne, ne_eq, Int.not_lt, Int.not_le, ge_iff_le, gt_iff_lt, maxLen] at *; omega))), (fun hg => (el_map hx1)), (fun hg => (by first | assumption | simp_all)), (fun hg => (by first | assumption | simp_all)), (fun hg => (by first | assumption | simp_all)), (fun hg => (by first | assumption | simp_all)), (fun hg => (by first | assumption | simp_all)), (fun hg => (by first | assumption | simp_all)), (by first | exact id | (intro h; rw [h]; rfl) | (intros; simp_all)), trivial⟩ (?_)
    refine andThen_normal ?_
    refine aw_cond (cond ((x3.AS : Int) == a_at) ((x3.Source : Int) == a_from) false) (by kernel_rfl) (fun h4 => ?_) (fun h4 => ?_)
    · rw [h4, cond_true] at hz1
      refine aw_seq ?_
      refine aw_reg [] [6] [] [] ⟨[(6, none, .val (.one (I (k2 : Int))))], []⟩ [] (by kernel_rfl) trivial (?_)
      refine andThen_normal ?_
      rw [← hz1, Sum.elim_inl] at hs
      exact aw_ret (ret_blk (ret_thru (ret_thru (ret_blk (ret_thru (ends_data (ys := [.one (I (k2 : Int))]) (.inl rfl) (by kernel_rfl) (by kernel_rfl) hs))))))
    · rw [h4, cond_false] at hz1
      refine aw_pick [0, 1, 2, 7] [] ⟨[(0, none, .val (.one (.sl (List.map GInbox.enc a_l)))), (1, none, .val (.one (I a_at))), (2, none, .val (.one (I a_from))), (7, none, .val (.one (I (k2 : Int))))], []⟩ (by kernel_rfl) ?_
      refine aw_skip ?_
      refine blk_normal ?_
      refine andThen_normal ?_
      refine aw_reg [] [0, 1, 2, 7] [] [] ⟨[(0, none, .val (.one (.sl (List.map GInbox.enc a_l)))), (1, none, .val (.one (I a_at))), (2, none, .val (.one (I a_from))), (7, none, .val (.one (I (wr ((k2 : Int) + 1)))))], []⟩ [] (by kernel_rfl) trivial (?_)
      exact ⟨a_l.length - (k2 + 1), by omega, k2 + 1, rfl, by omega, hz1, by rw [show wr ((k2 : Int) + 1) = ((k2 + 1 : Nat) : Int) from wrap_succ (by omega)]⟩

theorem i_FindInbox_ok (a_l : List GInbox) (a_as : Int) (a_source : Int) : MeetsAt Try.prog 31 [.one (.sl (List.map GInbox.enc a_l)), .one (I a_as), .one (I a_source)] [.one (I (i_FindInbox a_l a_as a_source))] none := by
  generalize hs : ([.one (I (i_FindInbox a_l a_as a_source))] : List AV) = outs
  unfold i_FindInbox at hs
  refine meets_data Try.func31 rfl (by kernel_rfl) (Nat.le_of_ble_eq_true rfl) ?_
  rintro ⟨P, m, w0, B, src, hsrc⟩ rfl rfl
  refine aw_seq ?_
  refine aw_reg [] [0, 1, 2] [] [] ⟨[(0, none, .val (.one (.sl (List.map GInbox.enc a_l)))), (1, none, .val (.one (I a_as))), (2, none, .val (.one (I a_source)))], []⟩ [] (by kernel_rfl) trivial (?_)
  refine andThen_normal ?_
  refine aw_seq ?_
  refine aw_seq ?_
  refine aw_reg [] [1, 2, 9, 10, 11] [] [] ⟨[(1, none, .val (.one (I a_as))), (2, none, .val (.one (I a_source))), (9, none, .val (.one (.sl (List.map GInbox.enc a_l)))), (10, none, .val (.one (I ((List.map GInbox.enc a_l).length : Int)))), (11, none, .val (.one (I 0)))], []⟩ [] (by kernel_rfl) trivial (q_cast ⟨[(1, none, .val (.one (I a_as))), (2, none, .val (.one (I a_source))), (9, none, .val (.one (.sl (List.map GInbox.enc a_l)))), (10, none, .val (.one (I (a_l.length : Int)))), (11, none, .val (.one (I 0)))], []⟩ (by simp only [Int.toNat_natCast, List.length_map, List.nil_append, List.map_append, List.map_cons, List.map_nil, List.map_take, List.map_drop, List.map_replicate, encI, encS, encU]) ?_)
  refine andThen_normal ?_
  refine aw_block ?_
  refine aw_len 9 (List.map GInbox.enc a_l) (by kernel_rfl) (fun hl1 => ?_)
  rw [List.length_map] at hl1
  generalize hz1 : i_FindInbox_l1 a_as a_source a_l 0 = z1 at hs
  refine aw_loop (fun m st => ∃ (k2 : Nat), m = a_l.length - k2 ∧ k2 ≤ a_l.length ∧ i_FindInbox_l1 a_as a_source (a_l.drop k2) k2 = z1 ∧ st = ⟨[(1, none, .val (.one (I a_as))), (2, none, .val (.one (I a_source))), (9, none, .val (.one (.sl (List.map GInbox.enc a_l)))), (10, none, .val (.one (I (a_l.length : Int)))), (11, none, .val (.one (I (k2 : Int))))], []⟩) (a_l.length) ⟨0, rfl, Nat.zero_le _, hz1, by kernel_rfl⟩ ?_
  clear hz1
  rintro m s ⟨k2, rfl, hk1, hz1, rfl⟩
  rcases drop_cases a_l k2 hk1 with ⟨hd1, rfl⟩ | ⟨x3, hd1, hx1, hlt1⟩
  · rw [hd1, i_FindInbox_l1] at hz1
    refine aw_seq ?_
    refine aw_reg [] [1, 2, 9, 10, 11, 12] [] [] ⟨[(1, none, .val (.one (I a_as))), (2, none, .val (.one (I a_source))), (9, none, .val (.one (.sl (List.map GInbox.enc a_l)))), (10, none, .val (.one (I (a_l.length : Int)))), (11, none, .val (.one (I (a_l.length : Int)))), (12, none, .val (.one (b1 (decide (((a_l.length : Int) : Int) < (a_l.length : Int))))))], []⟩ [] (by kernel_rfl) trivial (?_)
    refine andThen_normal ?_
    refine aw_seq ?_
    refine aw_cond (decide (((a_l.length : Int) : Int) < (a_l.length : Int))) (by kernel_rfl) (fun h => absurd h (by simp)) (fun _ => ?_)
    refine aw_pick [] [] ⟨[], []⟩ (by kernel_rfl) ?_
    refine aw_exit (exit_thru (exit_thru (exit_here 0 (?_))))
    rw [← hz1, Sum.elim_inr] at hs
    refine andThen_normal ?_
    refine aw_seq ?_
    refine aw_reg [] [6] [] [] ⟨[(6, none, .val (.one (I (-1))))], []⟩ [] (by kernel_rfl) trivial (?_)
    refine andThen_normal ?_
    exact aw_ret (ends_data (ys := [.one (I (-1))]) (.inl rfl) (by kernel_rfl) (by kernel_rfl) hs)
  · rw [hd1, i_FindInbox_l1] at hz1
    refine aw_seq ?_
    refine aw_reg [] [1, 2, 9, 10, 11, 12] [] [] ⟨[(1, none, .val (.one (I a_as))), (2, none, .val (.one (I a_source))), (9, none, .val (.one (.sl (List.map GInbox.enc a_l)))), (10, none, .val (.one (I (a_l.length : Int)))), (11, none, .val (.one (I (k2 : Int)))), (12, none, .val (.one (b1 (decide (((k2 : Int) : Int) < (a_l.length : Int))))))], []⟩ [] (by kernel_rfl) trivial (?_)
    refine andThen_normal ?_
    refine aw_seq ?_
    refine aw_cond (decide (((k2 : Int) : Int) < (a_l.length : Int))) (by kernel_rfl) (fun _ => ?_) (fun h => absurd h (by simp; omega))
    refine aw_pick [1, 2, 9, 10, 11] [] ⟨[(1, none, .val (.one (I a_as))), (2, none, .val (.one (I a_source))), (9, none, .val (.one (.sl (List.map GInbox.enc a_l)))), (10, none, .val (.one (I (a_l.length : Int)))), (11, none, .val (.one (I (k2 : Int))))], []⟩ (by kernel_rfl) ?_
    refine aw_skip ?_
    refine andThen_normal ?_
    refine aw_seq ?_
    refine aw_block ?_
    refine aw_seq ?_
    refine aw_reg [(14, .elem (GInbox.enc x3))] [1, 2, 7, 8, 9, 10, 11] [8] [] ⟨[(1, none, .val (.one (I a_as))), (2, none, .val (.one (I a_source))), (7, none, .val (.one (I (k2 : Int)))), (8, none, .val (.one (.ptr 8 0))), (9, none, .val (.one (.sl (List.map GInbox.enc a_l)))), (10, none, .val (.one (I (a_l.length : Int)))), (11, none, .val (.one (I (k2 : Int))))], [(8, .box [I x3.AS, I x3.Source, I x3.Next, .sl (List.map GMessage.enc x3.Received)])]⟩ [(0 : Int) ≤ (k2 : Int), (List.map GInbox.enc a_l)[((k2 : Int) : Int).toNat]? = some (GInbox.enc x3)] (by kernel_rfl) ⟨(by first | omega | (simp only [List.length_map, List.length_append, List.length_cons, List.length_nil, List.length_replicate, List.length_set, decide_eq_true_eq, Bool.and_eq_true, Bool.not_eq_true', decide_eq_false_iff_not, Bool.cond_false_right, Bool.not_eq_false', Bool.cond_true_left, Bool.or_eq_false_iff, Bool.or_eq_true, bne_eq_false_iff_eq, bne_iff_ne, beq_iff_eq, beq_eq_false_iff_ne, ne_eq, Int.not_lt, Int.not_le, ge_iff_le, gt_iff_lt, maxLen] at *; omega)), (el_map hx1), trivial⟩ (?_)
    refine andThen_normal ?_
    refine aw_seq ?_
    refine aw_reg [] [1, 2, 7, 9, 10, 11, 25] [] [] ⟨[(1, none, .val (.one (I a_as))), (2, none, .val (.one (I a_source))), (7, none, .val (.one (I (k2 : Int)))), (9, none, .val (.one (.sl (List.map GInbox.enc a_l)))), (10, none, .val (.one (I (a_l.length : Int)))), (11, none, .val (.one (I (k2 : Int)))), (25, none, .val (.one (b1 (cond ((x3.AS : Int) == a_as) ((x3.Source : Int) == a_source) false))))], []⟩ [((x3.AS : Int) == a_as) = true → ((x3.AS : Int) == a_as) = true, ((x3.AS : Int) == a_as) = true → ((x3.AS : Int) == a_as) = true, ((x3.AS : Int) == a_as) = true → ((x3.AS : Int) == a_as) = true, ((x3.AS : Int) == a_as) = true → ((x3.AS : Int) == a_as) = true] (by kernel_rfl) ⟨(fun hg => (by first | assumption | simp_all)), (fun hg => (by first | assumption | simp_all)), (fun hg => (by first | assumption | simp_all)), (by first | exact id | (intro h; rw [h]; rfl) | (intros; simp_all)), trivial⟩ (?_)
    refine andThen_normal ?_
    refine aw_cond (cond ((x3.AS : Int) == a_as) ((x3.Source : Int) == a_source) false) (by kernel_rfl) (fun h4 => ?_) (fun h4 => ?_)
    · rw [h4, cond_true] at hz1
      refine aw_seq ?_
      refine aw_reg [] [6] [] [] ⟨[(6, none, .val (.one (I (k2 : Int))))], []⟩ [] (by kernel_rfl) trivial (?_)
      refine andThen_normal ?_
      rw [← hz1, Sum.elim_inl] at hs
      exact aw_ret (ret_blk (ret_thru (ret_thru (ret_blk (ret_thru (ends_data (ys := [.one (I (k2 : Int))]) (.inl rfl) (by kernel_rfl) (by kernel_rfl) hs))))))
    · rw [h4, cond_false] at hz1
      refine aw_pick [1, 2, 9, 10, 11] [] ⟨[(1, none, .val (.one (I a_as))), (2, none, .val (.one (I a_source))), (9, none, .val (.one (.sl (List.map GInbox.enc a_l)))), (10, none, .val (.one (I (a_l.length : Int)))), (11, none, .val (.one (I (k2 : Int))))], []⟩ (by kernel_rfl) ?_
      refine aw_skip ?_
      refine blk_normal ?_
      refine andThen_normal ?_
      refine aw_reg [] [1, 2, 9, 10, 11] [] [] ⟨[(1, none, .val (.one (I a_as))), (2, none, .val (.one (I a_source))), (9, none, .val (.one (.sl (List.map GInbox.enc a_l)))), (10, none, .val (.one (I (a_l.length : Int)))), (11, none, .val (.one (I (wr ((k2 : Int) + 1)))))], []⟩ [] (by kernel_rfl) trivial (?_)
      exact ⟨a_l.length - (k2 + 1), by omega, k2 + 1, rfl, by omega, hz1, by rw [show wr ((k2 : Int) + 1) = ((k2 + 1 : Nat) : Int) from wrap_succ (by omega)]⟩

theorem l_szInboxS_ok (a_a : List GInbox) (a_left : Int) : MeetsAt Try.prog 28 [.one (.sl (List.map GInbox.enc a_a)), .one (I a_left)] [.one (I (l_szInboxS a_a a_left))] none := by
  generalize hs : ([.one (I (l_szInboxS a_a a_left))] : List AV) = outs
  unfold l_szInboxS at hs
  refine meets_data Try.func28 rfl (by kernel_rfl) (Nat.le_of_ble_eq_true rfl) ?_
  rintro ⟨P, m, w0, B, src, hsrc⟩ rfl rfl
  refine aw_seq ?_
  refine aw_reg [] [0, 1] [] [] ⟨[(0, none, .val (.one (.sl (List.map GInbox.enc a_a)))), (1, none, .val (.one (I a_left)))], []⟩ [] (by kernel_rfl) trivial (?_)
  refine andThen_normal ?_
  refine aw_seq ?_
  refine aw_reg [] [0, 1] [] [] ⟨[(0, none, .val (.one (.sl (List.map GInbox.enc a_a)))), (1, none, .val (.one (I (wr (a_left - ((List.map GInbox.enc a_a).length : Int))))))], []⟩ [] (by kernel_rfl) trivial (q_cast ⟨[(0, none, .val (.one (.sl (List.map GInbox.enc a_a)))), (1, none, .val (.one (I (wr (a_left - (a_a.length : Int))))))], []⟩ (by simp only [Int.toNat_natCast, List.length_map, List.nil_append, List.map_append, List.map_cons, List.map_nil, List.map_take, List.map_drop, List.map_replicate, encI, encS, encU]) ?_)
  refine andThen_normal ?_
  refine aw_seq ?_
  refine aw_seq ?_
  refine aw_reg [] [0, 1, 11] [] [] ⟨[(0, none, .val (.one (.sl (List.map GInbox.enc a_a)))), (1, none, .val (.one (I (wr (a_left - (a_a.length : Int)))))), (11, none, .val (.one (b1 (decide (((wr (a_left - (a_a.length : Int))) : Int) < 0)))))], []⟩ [] (by kernel_rfl) trivial (?_)
  refine andThen_normal ?_
  refine aw_cond (decide (((wr (a_left - (a_a.length : Int))) : Int) < 0)) (by kernel_rfl) (fun h1 => ?_) (fun h1 => ?_)
  · rw [h1, cond_true] at hs
    refine aw_seq ?_
    refine aw_reg [] [4] [] [] ⟨[(4, none, .val (.one (I (-1))))], []⟩ [] (by kernel_rfl) trivial (?_)
    refine andThen_normal ?_
    exact aw_ret (ret_thru (ends_data (ys := [.one (I (-1))]) (.inl rfl) (by kernel_rfl) (by kernel_rfl) hs))
  · rw [h1, cond_false] at hs
    refine aw_pick [0, 1] [] ⟨[(0, none, .val (.one (.sl (List.map GInbox.enc a_a)))), (1, none, .val (.one (I (wr (a_left - (a_a.length : Int))))))], []⟩ (by kernel_rfl) ?_
    refine aw_skip ?_
    refine andThen_normal ?_
    refine aw_seq ?_
    refine aw_seq ?_
    refine aw_reg [] [0, 1, 5] [] [] ⟨[(0, none, .val (.one (.sl (List.map GInbox.enc a_a)))), (1, none, .val (.one (I (wr (a_left - (a_a.length : Int)))))), (5, none, .val (.one (I 0)))], []⟩ [] (by kernel_rfl) trivial (?_)
    refine andThen_normal ?_
    refine aw_block ?_
    refine aw_len 0 (List.map GInbox.enc a_a) (by kernel_rfl) (fun hl1 => ?_)
    rw [List.length_map] at hl1
    generalize hz1 : l_szInboxS_l1  a_a 0 (wr (a_left - (a_a.length : Int))) = z1 at hs
    refine aw_loop (fun m st => ∃ (k4 : Nat) (c2 : Int), m = a_a.length - k4 ∧ k4 ≤ a_a.length ∧ l_szInboxS_l1  (a_a.drop k4) k4 c2 = z1 ∧ st = ⟨[(0, none, .val (.one (.sl (List.map GInbox.enc a_a)))), (1, none, .val (.one (I c2))), (5, none, .val (.one (I (k4 : Int))))], []⟩) (a_a.length) ⟨0, wr (a_left - (a_a.length : Int)), rfl, Nat.zero_le _, hz1, by kernel_rfl⟩ ?_
    clear hz1
    rintro m s ⟨k4, c2, rfl, hk1, hz1, rfl⟩
    rcases drop_cases a_a k4 hk1 with ⟨hd1, rfl⟩ | ⟨x5, hd1, hx1, hlt1⟩
    · rw [hd1, l_szInboxS_l1] at hz1
      refine aw_seq ?_
      refine aw_seq ?_
      refine aw_reg [] [0, 1, 5, 15] [] [] ⟨[(0, none, .val (.one (.sl (List.map GInbox.enc a_a)))), (1, none, .val (.one (I c2))), (5, none, .val (.one (I (a_a.length : Int)))), (15, none, .val (.one (b1 (decide (((a_a.length : Int) : Int) < ((List.map GInbox.enc a_a).length : Int))))))], []⟩ [] (by kernel_rfl) trivial (q_cast ⟨[(0, none, .val (.one (.sl (List.map GInbox.enc a_a)))), (1, none, .val (.one (I c2))), (5, none, .val (.one (I (a_a.length : Int)))), (15, none, .val (.one (b1 (decide (((a_a.length : Int) : Int) < (a_a.length : Int))))))], []⟩ (by simp only [Int.toNat_natCast, List.length_map, List.nil_append, List.map_append, List.map_cons, List.map_nil, List.map_take, List.map_drop, List.map_replicate, encI, encS, encU]) ?_)
      refine andThen_normal ?_
      refine aw_cond (decide (((a_a.length : Int) : Int) < (a_a.length : Int))) (by kernel_rfl) (fun h => absurd h (by simp)) (fun _ => ?_)
      refine aw_pick [1] [] ⟨[(1, none, .val (.one (I c2)))], []⟩ (by kernel_rfl) ?_
      refine aw_exit (exit_thru (exit_thru (exit_here 0 (?_))))
      rw [← hz1, Sum.elim_inr] at hs
      refine andThen_normal ?_
      refine aw_seq ?_
      refine aw_reg [] [4] [] [] ⟨[(4, none, .val (.one (I c2)))], []⟩ [] (by kernel_rfl) trivial (?_)
      refine andThen_normal ?_
      exact aw_ret (ends_data (ys := [.one (I c2)]) (.inl rfl) (by kernel_rfl) (by kernel_rfl) hs)
    · rw [hd1, l_szInboxS_l1] at hz1
      refine aw_seq ?_
      refine aw_seq ?_
      refine aw_reg [] [0, 1, 5, 15] [] [] ⟨[(0, none, .val (.one (.sl (List.map GInbox.enc a_a)))), (1, none, .val (.one (I c2))), (5, none, .val (.one (I (k4 : Int)))), (15, none, .val (.one (b1 (decide (((k4 : Int) : Int) < ((List.map GInbox.enc a_a).length : Int))))))], []⟩ [] (by kernel_rfl) trivial (q_cast ⟨[(0, none, .val (.one (.sl (List.map GInbox.enc a_a)))), (1, none, .val (.one (I c2))), (5, none, .val (.one (I (k4 : Int)))), (15, none, .val (.one (b1 (decide (((k4 : Int) : Int) < (a_a.length : Int))))))], []⟩ (by simp only [Int.toNat_natCast, List.length_map, List.nil_append, List.map_append, List.map_cons, List.map_nil, List.map_take, List.map_drop, List.map_replicate, encI, encS, encU]) ?_)
      refine andThen_normal ?_
      refine aw_cond (decide (((k4 : Int) : Int) < (a_a.length : Int))) (by kernel_rfl) (fun _ => ?_) (fun h => absurd h (by simp; omega))
      refine aw_pick [0, 1, 5] [] ⟨[(0, none, .val (.one (.sl (List.map GInbox.enc a_a)))), (1, none, .val (.one (I c2))), (5, none, .val (.one (I (k4 : Int))))], []⟩ (by kernel_rfl) ?_
      refine aw_skip ?_
      refine andThen_normal ?_
      refine aw_seq ?_
      refine aw_block ?_
      refine aw_seq ?_
      refine aw_reg [(20, .elem (GInbox.enc x5)), (23, .call [.agg (GInbox.enc x5), .one (I c2)] [.one (I (l_szInbox x5 c2))] (none))] [0, 1, 5] [] [] ⟨[(0, none, .val (.one (.sl (List.map GInbox.enc a_a)))), (1, none, .val (.one (I (l_szInbox x5 c2)))), (5, none, .val (.one (I (k4 : Int))))], []⟩ [(0 : Int) ≤ (k4 : Int), (List.map GInbox.enc a_a)[((k4 : Int) : Int).toNat]? = some (GInbox.enc x5), ([.agg [I x5.AS, I x5.Source, I x5.Next, .sl (List.map GMessage.enc x5.Received)], .one (I c2)] : List AV) = [.agg (GInbox.enc x5), .one (I c2)], MeetsAt Try.prog 22 [.agg (GInbox.enc x5), .one (I c2)] [.one (I (l_szInbox x5 c2))] (none)] (by kernel_rfl) ⟨(by first | omega | (simp only [List.length_map, List.length_append, List.length_cons, List.length_nil, List.length_replicate, List.length_set, decide_eq_true_eq, Bool.and_eq_true, Bool.not_eq_true', decide_eq_false_iff_not, Bool.cond_false_right, Bool.not_eq_false', Bool.cond_true_left, Bool.or_eq_false_iff, Bool.or_eq_true, bne_eq_false_iff_eq, bne_iff_ne, beq_iff_eq, beq_eq_false_iff_ne, ne_eq, Int.not_lt, Int.not_le, ge_iff_le, gt_iff_lt, maxLen] at *; omega)), (el_map hx1), (by first | rfl | simp only [Int.toNat_natCast, List.length_map, List.nil_append, List.map_append, List.map_cons, List.map_nil, List.map_take, List.map_drop, List.map_replicate]), (l_szInbox_ok x5 c2), trivial⟩ (?_)
      refine andThen_normal ?_
      refine aw_seq ?_
      refine aw_reg [] [0, 1, 5, 25] [] [] ⟨[(0, none, .val (.one (.sl (List.map GInbox.enc a_a)))), (1, none, .val (.one (I (l_szInbox x5 c2)))), (5, none, .val (.one (I (k4 : Int)))), (25, none, .val (.one (b1 (decide (((l_szInbox x5 c2) : Int) < 0)))))], []⟩ [] (by kernel_rfl) trivial (?_)
      refine andThen_normal ?_
      refine aw_cond (decide (((l_szInbox x5 c2) : Int) < 0)) (by kernel_rfl) (fun h6 => ?_) (fun h6 => ?_)
      · rw [h6, cond_true] at hz1
        refine aw_seq ?_
        refine aw_reg [] [4] [] [] ⟨[(4, none, .val (.one (I (-1))))], []⟩ [] (by kernel_rfl) trivial (?_)
        refine andThen_normal ?_
        rw [← hz1, Sum.elim_inl] at hs
        exact aw_ret (ret_blk (ret_thru (ret_thru (ret_blk (ret_thru (ends_data (ys := [.one (I (-1))]) (.inl rfl) (by kernel_rfl) (by kernel_rfl) hs))))))
      · rw [h6, cond_false] at hz1
        refine aw_pick [0, 1, 5] [] ⟨[(0, none, .val (.one (.sl (List.map GInbox.enc a_a)))), (1, none, .val (.one (I (l_szInbox x5 c2)))), (5, none, .val (.one (I (k4 : Int))))], []⟩ (by kernel_rfl) ?_
        refine aw_skip ?_
        refine blk_normal ?_
        refine andThen_normal ?_
        refine aw_reg [] [0, 1, 5] [] [] ⟨[(0, none, .val (.one (.sl (List.map GInbox.enc a_a)))), (1, none, .val (.one (I (l_szInbox x5 c2)))), (5, none, .val (.one (I (wr ((k4 : Int) + 1)))))], []⟩ [] (by kernel_rfl) trivial (?_)
        exact ⟨a_a.length - (k4 + 1), by omega, k4 + 1, (l_szInbox x5 c2), rfl, by omega, hz1, by rw [show wr ((k4 : Int) + 1) = ((k4 + 1 : Nat) : Int) from wrap_succ (by omega)]⟩

theorem l_toInboxS_ok (a_a : List GInbox) (hp : T.Sm (.sl (a_a.map GInbox.enc))) : MeetsAt Try.prog 30 [.one (.sl (List.map GInbox.enc a_a))] [.one (.sl (List.map GInbox.enc (l_toInboxS a_a)))] (some [[(26, 4)]]) := by
  generalize hs : ([.one (.sl (List.map GInbox.enc (l_toInboxS a_a)))] : List AV) = outs
  unfold l_toInboxS at hs
  refine meets_fresh Try.func30 rfl (by kernel_rfl) (Nat.le_of_ble_eq_true rfl) ?_
  rintro ⟨P, m, w0, B, src, hsrc⟩ rfl rfl
  have hf0 := hp.len
  refine aw_seq ?_
  refine aw_reg [] [0] [] [] ⟨[(0, none, .val (.one (.sl (List.map GInbox.enc a_a))))], []⟩ [] (by kernel_rfl) trivial (?_)
  refine andThen_normal ?_
  refine aw_seq ?_
  refine aw_reg [] [0, 3] [7] [] ⟨[(0, none, .val (.one (.sl (List.map GInbox.enc a_a)))), (3, none, .val (.one (.row 7)))], [(7, .row 26 4 (List.replicate (((List.map GInbox.enc a_a).length : Int)).toNat [I 0, I 0, I 0, .sl ([])]) true)]⟩ [((List.map GInbox.enc a_a).length : Int) = ((List.map GInbox.enc a_a).length : Int), (0 : Int) ≤ ((List.map GInbox.enc a_a).length : Int), ((48 : Nat) : Int) * ((List.map GInbox.enc a_a).length : Int) ≤ 281474976710656, ((List.map GInbox.enc a_a).length : Int) ≤ 4611686018427387904] (by kernel_rfl) ⟨rfl, (by first | omega | (simp only [List.length_map, List.length_append, List.length_cons, List.length_nil, List.length_replicate, List.length_set, decide_eq_true_eq, Bool.and_eq_true, Bool.not_eq_true', decide_eq_false_iff_not, Bool.cond_false_right, Bool.not_eq_false', Bool.cond_true_left, Bool.or_eq_false_iff, Bool.or_eq_true, bne_eq_false_iff_eq, bne_iff_ne, beq_iff_eq, beq_eq_false_iff_ne, ne_eq, Int.not_lt, Int.not_le, ge_iff_le, gt_iff_lt, maxLen] at *; omega)), (by first | omega | (simp only [List.length_map, List.length_append, List.length_cons, List.length_nil, List.length_replicate, List.length_set, decide_eq_true_eq, Bool.and_eq_true, Bool.not_eq_true', decide_eq_false_iff_not, Bool.cond_false_right, Bool.not_eq_false', Bool.cond_true_left, Bool.or_eq_false_iff, Bool.or_eq_true, bne_eq_false_iff_eq, bne_iff_ne, beq_iff_eq, beq_eq_false_iff_ne, ne_eq, Int.not_lt, Int.not_le, ge_iff_le, gt_iff_lt, maxLen] at *; omega)), (by first | omega | (simp only [List.length_map, List.length_append, List.length_cons, List.length_nil, List.length_replicate, List.length_set, decide_eq_true_eq, Bool.and_eq_true, Bool.not_eq_true', decide_eq_false_iff_not, Bool.cond_false_right, Bool.not_eq_false', Bool.cond_true_left, Bool.or_eq_false_iff, Bool.or_eq_true, bne_eq_false_iff_eq, bne_iff_ne, beq_iff_eq, beq_eq_false_iff_ne, ne_eq, Int.not_lt, Int.not_le, ge_iff_le, gt_iff_lt, maxLen] at *; omega)), trivial⟩ (q_cast ⟨[(0, none, .val (.one (.sl (List.map GInbox.enc a_a)))), (3, none, .val (.one (.row 7)))], [(7, .row 26 4 (List.map GInbox.enc (List.replicate a_a.length GInbox.zero)) true)]⟩ (by simp only [Int.toNat_natCast, List.length_map, List.nil_append, List.map_append, List.map_cons, List.map_nil, List.map_take, List.map_drop, List.map_replicate, GInbox.enc, GInbox.zero, encI, encS, encU]) ?_)
  refine andThen_normal ?_
  refine aw_seq ?_
  refine aw_seq ?_
  refine aw_reg [] [0, 3, 4] [7] [] ⟨[(0, none, .val (.one (.sl (List.map GInbox.enc a_a)))), (3, none, .val (.one (.row 7))), (4, none, .val (.one (I 0)))], [(7, .row 26 4 (List.map GInbox.enc (List.replicate a_a.length GInbox.zero)) true)]⟩ [] (by kernel_rfl) trivial (?_)
  refine andThen_normal ?_
  refine aw_block ?_
  refine aw_len 0 (List.map GInbox.enc a_a) (by kernel_rfl) (fun hl1 => ?_)
  rw [List.length_map] at hl1
  generalize hz1 : l_toInboxS_l1  a_a 0 (List.replicate a_a.length GInbox.zero) = z1 at hs
  refine aw_loop (fun m st => ∃ (k3 : Nat) (c2 : List GInbox), m = a_a.length - k3 ∧ k3 ≤ a_a.length ∧ c2.length = (List.replicate a_a.length GInbox.zero).length ∧ l_toInboxS_l1  (a_a.drop k3) k3 c2 = z1 ∧ st = ⟨[(0, none, .val (.one (.sl (List.map GInbox.enc a_a)))), (3, none, .val (.one (.row 7))), (4, none, .val (.one (I (k3 : Int))))], [(7, .row 26 4 (List.map GInbox.enc c2) true)]⟩) (a_a.length) ⟨0, List.replicate a_a.length GInbox.zero, rfl, Nat.zero_le _, rfl, hz1, by kernel_rfl⟩ ?_
  clear hz1
  rintro m s ⟨k3, c2, rfl, hk1, hic2, hz1, rfl⟩
  rcases drop_cases a_a k3 hk1 with ⟨hd1, rfl⟩ | ⟨x4, hd1, hx1, hlt1⟩
  · rw [hd1, l_toInboxS_l1] at hz1
    refine aw_seq ?_
    refine aw_seq ?_
    refine aw_reg [] [0, 3, 4, 11] [7] [] ⟨[(0, none, .val (.one (.sl (List.map GInbox.enc a_a)))), (3, none, .val (.one (.row 7))), (4, none, .val (.one (I (a_a.length : Int)))), (11, none, .val (.one (b1 (decide (((a_a.length : Int) : Int) < ((List.map GInbox.enc a_a).length : Int))))))], [(7, .row 26 4 (List.map GInbox.enc c2) true)]⟩ [] (by kernel_rfl) trivial (q_cast ⟨[(0, none, .val (.one (.sl (List.map GInbox.enc a_a)))), (3, none, .val (.one (.row 7))), (4, none, .val (.one (I (a_a.length : Int)))), (11, none, .val (.one (b1 (decide (((a_a.length : Int) : Int) < (a_a.length : Int))))))], [(7, .row 26 4 (List.map GInbox.enc c2) true)]⟩ (by simp only [Int.toNat_natCast, List.length_map, List.nil_append, List.map_append, List.map_cons, List.map_nil, List.map_take, List.map_drop, List.map_replicate, GInbox.enc, GInbox.zero, encI, encS, encU]) ?_)
    refine andThen_normal ?_
    refine aw_cond (decide (((a_a.length : Int) : Int) < (a_a.length : Int))) (by kernel_rfl) (fun h => absurd h (by simp)) (fun _ => ?_)
    refine aw_pick [3] [7] ⟨[(3, none, .val (.one (.row 7)))], [(7, .row 26 4 (List.map GInbox.enc c2) true)]⟩ (by kernel_rfl) ?_
    refine aw_exit (exit_thru (exit_thru (exit_here 0 (?_))))
    rw [← hz1] at hs
    refine andThen_normal ?_
    refine aw_seq ?_
    refine aw_reg [] [2] [7] [] ⟨[(2, none, .val (.one (.row 7)))], [(7, .row 26 4 (List.map GInbox.enc c2) true)]⟩ [] (by kernel_rfl) trivial (?_)
    refine andThen_normal ?_
    exact aw_ret (ends_fresh (ys := [.one (.row 7)]) (ids := [7]) (.inl rfl) (by kernel_rfl) (by kernel_rfl) rfl hs)
  · rw [hd1, l_toInboxS_l1] at hz1
    refine aw_seq ?_
    refine aw_seq ?_
    refine aw_reg [] [0, 3, 4, 11] [7] [] ⟨[(0, none, .val (.one (.sl (List.map GInbox.enc a_a)))), (3, none, .val (.one (.row 7))), (4, none, .val (.one (I (k3 : Int)))), (11, none, .val (.one (b1 (decide (((k3 : Int) : Int) < ((List.map GInbox.enc a_a).length : Int))))))], [(7, .row 26 4 (List.map GInbox.enc c2) true)]⟩ [] (by kernel_rfl) trivial (q_cast ⟨[(0, none, .val (.one (.sl (List.map GInbox.enc a_a)))), (3, none, .val (.one (.row 7))), (4, none, .val (.one (I (k3 : Int)))), (11, none, .val (.one (b1 (decide (((k3 : Int) : Int) < (a_a.length : Int))))))], [(7, .row 26 4 (List.map GInbox.enc c2) true)]⟩ (by simp only [Int.toNat_natCast, List.length_map, List.nil_append, List.map_append, List.map_cons, List.map_nil, List.map_take, List.map_drop, List.map_replicate, GInbox.enc, GInbox.zero, encI, encS, encU]) ?_)
    refine andThen_normal ?_
    refine aw_cond (decide (((k3 : Int) : Int) < (a_a.length : Int))) (by kernel_rfl) (fun _ => ?_) (fun h => absurd h (by simp; omega))
    refine aw_pick [0, 3, 4] [7] ⟨[(0, none, .val (.one (.sl (List.map GInbox.enc a_a)))), (3, none, .val (.one (.row 7))), (4, none, .val (.one (I (k3 : Int))))], [(7, .row 26 4 (List.map GInbox.enc c2) true)]⟩ (by kernel_rfl) ?_
    refine aw_skip ?_
    refine andThen_normal ?_
    refine aw_seq ?_
    refine aw_block ?_
    refine aw_reg [(18, .elem (GInbox.enc x4)), (20, .call [.agg (GInbox.enc x4)] [.agg (GInbox.enc (l_toInbox x4))] (some [[(0, 0), (0, 0), (0, 0), (87, 1)]]))] [0, 3, 4] [7] [] ⟨[(0, none, .val (.one (.sl (List.map GInbox.enc a_a)))), (3, none, .val (.one (.row 7))), (4, none, .val (.one (I (k3 : Int))))], [(7, .row 26 4 (setEl 4 (List.map GInbox.enc c2) (((k3 : Int)).toNat) 0 [I ((l_toInbox x4).AS), I ((l_toInbox x4).Source), I ((l_toInbox x4).Next), .sl (List.map GMessage.enc ((l_toInbox x4).Received))]) true)]⟩ [(0 : Int) ≤ (k3 : Int), (List.map GInbox.enc a_a)[((k3 : Int) : Int).toNat]? = some (GInbox.enc x4), ([.agg [I x4.AS, I x4.Source, I x4.Next, .sl (List.map GMessage.enc x4.Received)]] : List AV) = [.agg (GInbox.enc x4)], MeetsAt Try.prog 24 [.agg (GInbox.enc x4)] [.agg (GInbox.enc (l_toInbox x4))] (some [[(0, 0), (0, 0), (0, 0), (87, 1)]]), (0 : Int) ≤ (k3 : Int), (k3 : Int) < ((List.map GInbox.enc c2).length : Int), (((k3 : Int)).toNat) < (List.map GInbox.enc c2).length] (by kernel_rfl) ⟨(by first | omega | (simp only [List.length_map, List.length_append, List.length_cons, List.length_nil, List.length_replicate, List.length_set, decide_eq_true_eq, Bool.and_eq_true, Bool.not_eq_true', decide_eq_false_iff_not, Bool.cond_false_right, Bool.not_eq_false', Bool.cond_true_left, Bool.or_eq_false_iff, Bool.or_eq_true, bne_eq_false_iff_eq, bne_iff_ne, beq_iff_eq, beq_eq_false_iff_ne, ne_eq, Int.not_lt, Int.not_le, ge_iff_le, gt_iff_lt, maxLen] at *; omega)), (el_map hx1), (by first | rfl | simp only [Int.toNat_natCast, List.length_map, List.nil_append, List.map_append, List.map_cons, List.map_nil, List.map_take, List.map_drop, List.map_replicate]), (l_toInbox_ok x4 (by first | assumption | exact hp.el (List.mem_of_getElem? hx1) | exact hp _ (by simp []) | exact hf0 (by assumption) | exact hf1 (by assumption) (by assumption) | omega)), (by first | omega | (simp only [List.length_map, List.length_append, List.length_cons, List.length_nil, List.length_replicate, List.length_set, decide_eq_true_eq, Bool.and_eq_true, Bool.not_eq_true', decide_eq_false_iff_not, Bool.cond_false_right, Bool.not_eq_false', Bool.cond_true_left, Bool.or_eq_false_iff, Bool.or_eq_true, bne_eq_false_iff_eq, bne_iff_ne, beq_iff_eq, beq_eq_false_iff_ne, ne_eq, Int.not_lt, Int.not_le, ge_iff_le, gt_iff_lt, maxLen] at *; omega)), (by first | omega | (simp only [List.length_map, List.length_append, List.length_cons, List.length_nil, List.length_replicate, List.length_set, decide_eq_true_eq, Bool.and_eq_true, Bool.not_eq_true', decide_eq_false_iff_not, Bool.cond_false_right, Bool.not_eq_false', Bool.cond_true_left, Bool.or_eq_false_iff, Bool.or_eq_true, bne_eq_false_iff_eq, bne_iff_ne, beq_iff_eq, beq_eq_false_iff_ne, ne_eq, Int.not_lt, Int.not_le, ge_iff_le, gt_iff_lt, maxLen] at *; omega)), (by first | omega | (simp only [List.length_map, List.length_append, List.length_cons, List.length_nil, List.length_replicate, List.length_set, decide_eq_true_eq, Bool.and_eq_true, Bool.not_eq_true', decide_eq_false_iff_not, Bool.cond_false_right, Bool.not_eq_false', Bool.cond_true_left, Bool.or_eq_false_iff, Bool.or_eq_true, bne_eq_false_iff_eq, bne_iff_ne, beq_iff_eq, beq_eq_false_iff_ne, ne_eq, Int.not_lt, Int.not_le, ge_iff_le, gt_iff_lt, maxLen] at *; omega)), trivial⟩ (q_cast ⟨[(0, none, .val (.one (.sl (List.map GInbox.enc a_a)))), (3, none, .val (.one (.row 7))), (4, none, .val (.one (I (k3 : Int))))], [(7, .row 26 4 (List.map GInbox.enc (c2.set k3 (l_toInbox x4))) true)]⟩ (by (try rw [setEl_set (en := GInbox.enc) (k := 4) (ts := [I ((l_toInbox x4).AS), I ((l_toInbox x4).Source), I ((l_toInbox x4).Next), .sl (List.map GMessage.enc ((l_toInbox x4).Received))]) (l_toInbox x4) rfl rfl]) <;> (try simp only [Int.toNat_natCast, List.length_map, List.nil_append, List.map_append, List.map_cons, List.map_nil, List.map_take, List.map_drop, List.map_replicate, GInbox.enc, GInbox.zero, encI, encS, encU])) ?_)
    refine blk_normal ?_
    refine andThen_normal ?_
    refine aw_reg [] [0, 3, 4] [7] [] ⟨[(0, none, .val (.one (.sl (List.map GInbox.enc a_a)))), (3, none, .val (.one (.row 7))), (4, none, .val (.one (I (wr ((k3 : Int) + 1)))))], [(7, .row 26 4 (List.map GInbox.enc (c2.set k3 (l_toInbox x4))) true)]⟩ [] (by kernel_rfl) trivial (?_)
    exact ⟨a_a.length - (k3 + 1), by omega, k3 + 1, c2.set k3 (l_toInbox x4), rfl, by omega, by simp only [List.length_set, List.length_modify]; assumption, hz1, by rw [show wr ((k3 : Int) + 1) = ((k3 + 1 : Nat) : Int) from wrap_succ (by omega)]⟩

theorem l_eqInboxS_ok (a_a : List GInbox) (a_b : List GInbox) : MeetsAt Try.prog 32 [.one (.sl (List.map GInbox.enc a_a)), .one (.sl (List.map GInbox.enc a_b))] [.one (b1 (l_eqInboxS a_a a_b))] none := by
  generalize hs : ([.one (b1 (l_eqInboxS a_a a_b))] : List AV) = outs
  unfold l_eqInboxS at hs
  refine meets_data Try.func32 rfl (by kernel_rfl) (Nat.le_of_ble_eq_true rfl) ?_
  rintro ⟨P, m, w0, B, src, hsrc⟩ rfl rfl
  refine aw_seq ?_
  refine aw_reg [] [0, 1] [] [] ⟨[(0, none, .val (.one (.sl (List.map GInbox.enc a_a)))), (1, none, .val (.one (.sl (List.map GInbox.enc a_b))))], []⟩ [] (by kernel_rfl) trivial (?_)
  refine andThen_normal ?_
  refine aw_seq ?_
  refine aw_seq ?_
  refine aw_reg [] [0, 1, 10] [] [] ⟨[(0, none, .val (.one (.sl (List.map GInbox.enc a_a)))), (1, none, .val (.one (.sl (List.map GInbox.enc a_b)))), (10, none, .val (.one (b1 ((((List.map GInbox.enc a_a).length : Int) : Int) != ((List.map GInbox.enc a_b).length : Int)))))], []⟩ [] (by kernel_rfl) trivial (q_cast ⟨[(0, none, .val (.one (.sl (List.map GInbox.enc a_a)))), (1, none, .val (.one (.sl (List.map GInbox.enc a_b)))), (10, none, .val (.one (b1 (((a_a.length : Int) : Int) != (a_b.length : Int)))))], []⟩ (by simp only [Int.toNat_natCast, List.length_map, List.nil_append, List.map_append, List.map_cons, List.map_nil, List.map_take, List.map_drop, List.map_replicate, encI, encS, encU]) ?_)
  refine andThen_normal ?_
  refine aw_cond (((a_a.length : Int) : Int) != (a_b.length : Int)) (by kernel_rfl) (fun h1 => ?_) (fun h1 => ?_)
  · rw [h1, cond_true] at hs
    refine aw_seq ?_
    refine aw_reg [] [4] [] [] ⟨[(4, none, .val (.one (b1 false)))], []⟩ [] (by kernel_rfl) trivial (?_)
    refine andThen_normal ?_
    exact aw_ret (ret_thru (ends_data (ys := [.one (b1 false)]) (.inl rfl) (by kernel_rfl) (by kernel_rfl) hs))
  · rw [h1, cond_false] at hs
    refine aw_pick [0, 1] [] ⟨[(0, none, .val (.one (.sl (List.map GInbox.enc a_a)))), (1, none, .val (.one (.sl (List.map GInbox.enc a_b))))], []⟩ (by kernel_rfl) ?_
    refine aw_skip ?_
    refine andThen_normal ?_
    refine aw_seq ?_
    refine aw_seq ?_
    refine aw_reg [] [0, 1, 5] [] [] ⟨[(0, none, .val (.one (.sl (List.map GInbox.enc a_a)))), (1, none, .val (.one (.sl (List.map GInbox.enc a_b)))), (5, none, .val (.one (I 0)))], []⟩ [] (by kernel_rfl) trivial (?_)
    refine andThen_normal ?_
    refine aw_block ?_
    refine aw_len 0 (List.map GInbox.enc a_a) (by kernel_rfl) (fun hl1 => ?_)
    rw [List.length_map] at hl1
    generalize hz1 : l_eqInboxS_l1 a_b a_a 0 = z1 at hs
    refine aw_loop (fun m st => ∃ (k3 : Nat), m = a_a.length - k3 ∧ k3 ≤ a_a.length ∧ l_eqInboxS_l1 a_b (a_a.drop k3) k3 = z1 ∧ st = ⟨[(0, none, .val (.one (.sl (List.map GInbox.enc a_a)))), (1, none, .val (.one (.sl (List.map GInbox.enc a_b)))), (5, none, .val (.one (I (k3 : Int))))], []⟩) (a_a.length) ⟨0, rfl, Nat.zero_le _, hz1, by kernel_rfl⟩ ?_
    clear hz1
    rintro m s ⟨k3, rfl, hk1, hz1, rfl⟩
    rcases drop_cases a_a k3 hk1 with ⟨hd1, rfl⟩ | ⟨x4, hd1, hx1, hlt1⟩
    · rw [hd1, l_eqInboxS_l1] at hz1
      refine aw_seq ?_
      refine aw_seq ?_
      refine aw_reg [] [0, 1, 5, 14] [] [] ⟨[(0, none, .val (.one (.sl (List.map GInbox.enc a_a)))), (1, none, .val (.one (.sl (List.map GInbox.enc a_b)))), (5, none, .val (.one (I (a_a.length : Int)))), (14, none, .val (.one (b1 (decide (((a_a.length : Int) : Int) < ((List.map GInbox.enc a_a).length : Int))))))], []⟩ [] (by kernel_rfl) trivial (q_cast ⟨[(0, none, .val (.one (.sl (List.map GInbox.enc a_a)))), (1, none, .val (.one (.sl (List.map GInbox.enc a_b)))), (5, none, .val (.one (I (a_a.length : Int)))), (14, none, .val (.one (b1 (decide (((a_a.length : Int) : Int) < (a_a.length : Int))))))], []⟩ (by simp only [Int.toNat_natCast, List.length_map, List.nil_append, List.map_append, List.map_cons, List.map_nil, List.map_take, List.map_drop, List.map_replicate, encI, encS, encU]) ?_)
      refine andThen_normal ?_
      refine aw_cond (decide (((a_a.length : Int) : Int) < (a_a.length : Int))) (by kernel_rfl) (fun h => absurd h (by simp)) (fun _ => ?_)
      refine aw_pick [] [] ⟨[], []⟩ (by kernel_rfl) ?_
      refine aw_exit (exit_thru (exit_thru (exit_here 0 (?_))))
      rw [← hz1, Sum.elim_inr] at hs
      refine andThen_normal ?_
      refine aw_seq ?_
      refine aw_reg [] [4] [] [] ⟨[(4, none, .val (.one (b1 true)))], []⟩ [] (by kernel_rfl) trivial (?_)
      refine andThen_normal ?_
      exact aw_ret (ends_data (ys := [.one (b1 true)]) (.inl rfl) (by kernel_rfl) (by kernel_rfl) hs)
    · rw [hd1, l_eqInboxS_l1] at hz1
      refine aw_seq ?_
      refine aw_seq ?_
      refine aw_reg [] [0, 1, 5, 14] [] [] ⟨[(0, none, .val (.one (.sl (List.map GInbox.enc a_a)))), (1, none, .val (.one (.sl (List.map GInbox.enc a_b)))), (5, none, .val (.one (I (k3 : Int)))), (14, none, .val (.one (b1 (decide (((k3 : Int) : Int) < ((List.map GInbox.enc a_a).length : Int))))))], []⟩ [] (by kernel_rfl) trivial (q_cast ⟨[(0, none, .val (.one (.sl (List.map GInbox.enc a_a)))), (1, none, .val (.one (.sl (List.map GInbox.enc a_b)))), (5, none, .val (.one (I (k3 : Int)))), (14, none, .val (.one (b1 (decide (((k3 : Int) : Int) < (a_a.length : Int))))))], []⟩ (by simp only [Int.toNat_natCast, List.length_map, List.nil_append, List.map_append, List.map_cons, List.map_nil, List.map_take, List.map_drop, List.map_replicate, encI, encS, encU]) ?_)
      refine andThen_normal ?_
      refine aw_cond (decide (((k3 : Int) : Int) < (a_a.length : Int))) (by kernel_rfl) (fun _ => ?_) (fun h => absurd h (by simp; omega))
      refine aw_pick [0, 1, 5] [] ⟨[(0, none, .val (.one (.sl (List.map GInbox.enc a_a)))), (1, none, .val (.one (.sl (List.map GInbox.enc a_b)))), (5, none, .val (.one (I (k3 : Int))))], []⟩ (by kernel_rfl) ?_
      refine aw_skip ?_
      refine andThen_normal ?_
      refine aw_seq ?_
      refine aw_block ?_
      refine aw_seq ?_
      refine aw_drw [(19, .elem (GInbox.enc x4)), (23, .elem (GInbox.enc (a_b.getD k3 GInbox.zero))), (25, .call [.agg (GInbox.enc x4), .agg (GInbox.enc (a_b.getD k3 GInbox.zero))] [.one (b1 (l_eqInbox x4 (a_b.getD k3 GInbox.zero)))] (none))] [0, 1, 2, 3, 4, 5, 6, 7, 8, 9] [0, 1, 5, 26] [] [] ⟨[(0, none, .val (.one (.sl (List.map GInbox.enc a_a)))), (1, none, .val (.one (.sl (List.map GInbox.enc a_b)))), (5, none, .val (.one (I (k3 : Int)))), (26, none, .val (.one (b1 (!(l_eqInbox x4 (a_b.getD k3 GInbox.zero))))))], []⟩ [(0 : Int) ≤ (k3 : Int), (List.map GInbox.enc a_a)[((k3 : Int) : Int).toNat]? = some (GInbox.enc x4), (0 : Int) ≤ (k3 : Int), (List.map GInbox.enc a_b)[((k3 : Int) : Int).toNat]? = some (GInbox.enc (a_b.getD k3 GInbox.zero)), ([.agg [I x4.AS, I x4.Source, I x4.Next, .sl (List.map GMessage.enc x4.Received)], .agg [I ((a_b.getD k3 GInbox.zero).AS), I ((a_b.getD k3 GInbox.zero).Source), I ((a_b.getD k3 GInbox.zero).Next), .sl (List.map GMessage.enc ((a_b.getD k3 GInbox.zero).Received))]] : List AV) = [.agg (GInbox.enc x4), .agg (GInbox.enc (a_b.getD k3 GInbox.zero))], MeetsAt Try.prog 19 [.agg (GInbox.enc x4), .agg (GInbox.enc (a_b.getD k3 GInbox.zero))] [.one (b1 (l_eqInbox x4 (a_b.getD k3 GInbox.zero)))] (none)] (by kernel_rfl) (by kernel_rfl) (Nat.le_of_ble_eq_true rfl) (by kernel_rfl) ⟨(by first | omega | (simp only [List.length_map, List.length_append, List.length_cons, List.length_nil, List.length_replicate, List.length_set, decide_eq_true_eq, Bool.and_eq_true, Bool.not_eq_true', decide_eq_false_iff_not, Bool.cond_false_right, Bool.not_eq_false', Bool.cond_true_left, Bool.or_eq_false_iff, Bool.or_eq_true, bne_eq_false_iff_eq, bne_iff_ne, beq_iff_eq, beq_eq_false_iff_ne, ne_eq, Int.not_lt, Int.not_le, ge_iff_le, gt_iff_lt, maxLen] at *; omega)), (el_map hx1), (by first | omega | (simp only [List.length_map, List.length_append, List.length_cons, List.length_nil, List.length_replicate, List.length_set, decide_eq_true_eq, Bool.and_eq_true, Bool.not_eq_true', decide_eq_false_iff_not, Bool.cond_false_right, Bool.not_eq_false', Bool.cond_true_left, Bool.or_eq_false_iff, Bool.or_eq_true, bne_eq_false_iff_eq, bne_iff_ne, beq_iff_eq, beq_eq_false_iff_ne, ne_eq, Int.not_lt, Int.not_le, ge_iff_le, gt_iff_lt, maxLen] at *; omega)), (el_getD (n := (k3 : Int)) (by first | omega | (simp only [List.length_map, List.length_append, List.length_cons, List.length_nil, List.length_replicate, List.length_set, decide_eq_true_eq, Bool.and_eq_true, Bool.not_eq_true', decide_eq_false_iff_not, Bool.cond_false_right, Bool.not_eq_false', Bool.cond_true_left, Bool.or_eq_false_iff, Bool.or_eq_true, bne_eq_false_iff_eq, bne_iff_ne, beq_iff_eq, beq_eq_false_iff_ne, ne_eq, Int.not_lt, Int.not_le, ge_iff_le, gt_iff_lt, maxLen] at *; omega)) (by first | omega | (simp only [List.length_map, List.length_append, List.length_cons, List.length_nil, List.length_replicate, List.length_set, decide_eq_true_eq, Bool.and_eq_true, Bool.not_eq_true', decide_eq_false_iff_not, Bool.cond_false_right, Bool.not_eq_false', Bool.cond_true_left, Bool.or_eq_false_iff, Bool.or_eq_true, bne_eq_false_iff_eq, bne_iff_ne, beq_iff_eq, beq_eq_false_iff_ne, ne_eq, Int.not_lt, Int.not_le, ge_iff_le, gt_iff_lt, maxLen] at *; omega))), (by first | rfl | simp only [Int.toNat_natCast, List.length_map, List.nil_append, List.map_append, List.map_cons, List.map_nil, List.map_take, List.map_drop, List.map_replicate]), (l_eqInbox_ok x4 (a_b.getD k3 GInbox.zero)), trivial⟩ (?_)
      refine andThen_normal ?_
      refine aw_cond (!(l_eqInbox x4 (a_b.getD k3 GInbox.zero))) (by kernel_rfl) (fun h5 => ?_) (fun h5 => ?_)
      · rw [h5, cond_true] at hz1
        refine aw_seq ?_
        refine aw_reg [] [4] [] [] ⟨[(4, none, .val (.one (b1 false)))], []⟩ [] (by kernel_rfl) trivial (?_)
        refine andThen_normal ?_
        rw [← hz1, Sum.elim_inl] at hs
        exact aw_ret (ret_blk (ret_thru (ret_thru (ret_blk (ret_thru (ends_data (ys := [.one (b1 false)]) (.inl rfl) (by kernel_rfl) (by kernel_rfl) hs))))))
      · rw [h5, cond_false] at hz1
        refine aw_pick [0, 1, 5] [] ⟨[(0, none, .val (.one (.sl (List.map GInbox.enc a_a)))), (1, none, .val (.one (.sl (List.map GInbox.enc a_b)))), (5, none, .val (.one (I (k3 : Int))))], []⟩ (by kernel_rfl) ?_
        refine aw_skip ?_
        refine blk_normal ?_
        refine andThen_normal ?_
        refine aw_reg [] [0, 1, 5] [] [] ⟨[(0, none, .val (.one (.sl (List.map GInbox.enc a_a)))), (1, none, .val (.one (.sl (List.map GInbox.enc a_b)))), (5, none, .val (.one (I (wr ((k3 : Int) + 1)))))], []⟩ [] (by kernel_rfl) trivial (?_)
        exact ⟨a_a.length - (k3 + 1), by omega, k3 + 1, rfl, by omega, hz1, by rw [show wr ((k3 : Int) + 1) = ((k3 + 1 : Nat) : Int) from wrap_succ (by omega)]⟩

theorem l_FnExactFindInbox_ok (a_aL : List GInbox) (a_aAs : Int) (a_aSource : Int) (hw0 : T.Wf (.sl (a_aL.map GInbox.enc))) : MeetsAt Try.prog 7 [.one (.sl (List.map GInbox.enc a_aL)), .one (I a_aAs), .one (I a_aSource)] [.one (b1 (l_FnExactFindInbox a_aL a_aAs a_aSource))] none := by
  generalize hs : ([.one (b1 (l_FnExactFindInbox a_aL a_aAs a_aSource))] : List AV) = outs
  unfold l_FnExactFindInbox at hs
  refine meets_data Try.func7 rfl (by kernel_rfl) (Nat.le_of_ble_eq_true rfl) ?_
  rintro ⟨P, m, w0, B, src, hsrc⟩ rfl rfl
  have hf0 := (sz_InboxS a_aL 1048576 hw0 (by decide) (by decide)).sm
  refine aw_seq ?_
  refine aw_reg [] [0, 1, 2] [] [] ⟨[(0, none, .val (.one (.sl (List.map GInbox.enc a_aL)))), (1, none, .val (.one (I a_aAs))), (2, none, .val (.one (I a_aSource)))], []⟩ [] (by kernel_rfl) trivial (?_)
  refine andThen_normal ?_
  refine aw_seq ?_
  refine aw_reg [] [0, 1, 2, 7] [] [] ⟨[(0, none, .val (.one (.sl (List.map GInbox.enc a_aL)))), (1, none, .val (.one (I a_aAs))), (2, none, .val (.one (I a_aSource))), (7, none, .val (.one (I 1048576)))], []⟩ [] (by kernel_rfl) trivial (?_)
  refine andThen_normal ?_
  refine aw_seq ?_
  refine aw_reg [(13, .call [.one (.sl (List.map GInbox.enc a_aL)), .one (I 1048576)] [.one (I (l_szInboxS a_aL 1048576))] (none))] [0, 1, 2, 7] [] [] ⟨[(0, none, .val (.one (.sl (List.map GInbox.enc a_aL)))), (1, none, .val (.one (I a_aAs))), (2, none, .val (.one (I a_aSource))), (7, none, .val (.one (I (l_szInboxS a_aL 1048576))))], []⟩ [([.one (.sl (List.map GInbox.enc a_aL)), .one (I 1048576)] : List AV) = [.one (.sl (List.map GInbox.enc a_aL)), .one (I 1048576)], MeetsAt Try.prog 28 [.one (.sl (List.map GInbox.enc a_aL)), .one (I 1048576)] [.one (I (l_szInboxS a_aL 1048576))] (none)] (by kernel_rfl) ⟨rfl, (l_szInboxS_ok a_aL 1048576), trivial⟩ (?_)
  refine andThen_normal ?_
  refine aw_seq ?_
  refine aw_seq ?_
  refine aw_reg [] [0, 1, 2, 15] [] [] ⟨[(0, none, .val (.one (.sl (List.map GInbox.enc a_aL)))), (1, none, .val (.one (I a_aAs))), (2, none, .val (.one (I a_aSource))), (15, none, .val (.one (b1 (decide (((l_szInboxS a_aL 1048576) : Int) < 0)))))], []⟩ [] (by kernel_rfl) trivial (?_)
  refine andThen_normal ?_
  refine aw_cond (decide (((l_szInboxS a_aL 1048576) : Int) < 0)) (by kernel_rfl) (fun h1 => ?_) (fun h1 => ?_)
  · rw [h1, cond_true] at hs
    refine aw_seq ?_
    refine aw_reg [] [6] [] [] ⟨[(6, none, .val (.one (b1 true)))], []⟩ [] (by kernel_rfl) trivial (?_)
    refine andThen_normal ?_
    exact aw_ret (ret_thru (ends_data (ys := [.one (b1 true)]) (.inl rfl) (by kernel_rfl) (by kernel_rfl) hs))
  · rw [h1, cond_false] at hs
    refine aw_pick [0, 1, 2] [] ⟨[(0, none, .val (.one (.sl (List.map GInbox.enc a_aL)))), (1, none, .val (.one (I a_aAs))), (2, none, .val (.one (I a_aSource)))], []⟩ (by kernel_rfl) ?_
    refine aw_skip ?_
    refine andThen_normal ?_
    refine aw_seq ?_
    refine aw_reg [(17, .call [.one (.sl (List.map GInbox.enc a_aL))] [.one (.sl (List.map GInbox.enc (l_toInboxS a_aL)))] (some [[(26, 4)]])), (20, .call [.one (.sl (List.map GInbox.enc (l_toInboxS a_aL))), .one (I a_aAs), .one (I a_aSource)] [.one (I (s_FindInbox (l_toInboxS a_aL) a_aAs a_aSource))] (none))] [0, 1, 2, 8] [] [] ⟨[(0, none, .val (.one (.sl (List.map GInbox.enc a_aL)))), (1, none, .val (.one (I a_aAs))), (2, none, .val (.one (I a_aSource))), (8, none, .val (.one (I (s_FindInbox (l_toInboxS a_aL) a_aAs a_aSource))))], []⟩ [([.one (.sl (List.map GInbox.enc a_aL))] : List AV) = [.one (.sl (List.map GInbox.enc a_aL))], MeetsAt Try.prog 30 [.one (.sl (List.map GInbox.enc a_aL))] [.one (.sl (List.map GInbox.enc (l_toInboxS a_aL)))] (some [[(26, 4)]]), ([.one (.sl (List.map GInbox.enc (l_toInboxS a_aL))), .one (I a_aAs), .one (I a_aSource)] : List AV) = [.one (.sl (List.map GInbox.enc (l_toInboxS a_aL))), .one (I a_aAs), .one (I a_aSource)], MeetsAt Try.prog 29 [.one (.sl (List.map GInbox.enc (l_toInboxS a_aL))), .one (I a_aAs), .one (I a_aSource)] [.one (I (s_FindInbox (l_toInboxS a_aL) a_aAs a_aSource))] (none)] (by kernel_rfl) ⟨rfl, (l_toInboxS_ok a_aL (by first | assumption | exact hp _ (by simp []) | exact hf0 (by assumption) | exact hf1 (by assumption) (by assumption) | omega)), rfl, (s_FindInbox_ok (l_toInboxS a_aL) a_aAs a_aSource), trivial⟩ (?_)
    refine andThen_normal ?_
    refine aw_seq ?_
    refine aw_reg [(22, .call [.one (.sl (List.map GInbox.enc a_aL))] [.one (.sl (List.map GInbox.enc (l_toInboxS a_aL)))] (some [[(26, 4)]]))] [0, 1, 2, 8, 9] [1352] [] ⟨[(0, none, .val (.one (.sl (List.map GInbox.enc a_aL)))), (1, none, .val (.one (I a_aAs))), (2, none, .val (.one (I a_aSource))), (8, none, .val (.one (I (s_FindInbox (l_toInboxS a_aL) a_aAs a_aSource)))), (9, none, .val (.one (.row 1352)))], [(1352, .row 26 4 (List.map GInbox.enc (l_toInboxS a_aL)) true)]⟩ [([.one (.sl (List.map GInbox.enc a_aL))] : List AV) = [.one (.sl (List.map GInbox.enc a_aL))], MeetsAt Try.prog 30 [.one (.sl (List.map GInbox.enc a_aL))] [.one (.sl (List.map GInbox.enc (l_toInboxS a_aL)))] (some [[(26, 4)]])] (by kernel_rfl) ⟨rfl, (l_toInboxS_ok a_aL (by first | assumption | exact hp _ (by simp []) | exact hf0 (by assumption) | exact hf1 (by assumption) (by assumption) | omega)), trivial⟩ (?_)
    refine andThen_normal ?_
    refine aw_seq ?_
    refine aw_reg [(26, .call [.one (.sl (List.map GInbox.enc (l_toInboxS a_aL))), .one (I a_aAs), .one (I a_aSource)] [.one (I (i_FindInbox (l_toInboxS a_aL) a_aAs a_aSource))] (none))] [0, 8, 9, 10] [1352] [] ⟨[(0, none, .val (.one (.sl (List.map GInbox.enc a_aL)))), (8, none, .val (.one (I (s_FindInbox (l_toInboxS a_aL) a_aAs a_aSource)))), (9, none, .val (.one (.row 1352))), (10, none, .val (.one (I (i_FindInbox (l_toInboxS a_aL) a_aAs a_aSource))))], [(1352, .row 26 4 (List.map GInbox.enc (l_toInboxS a_aL)) true)]⟩ [([.one (.sl (List.map GInbox.enc (l_toInboxS a_aL))), .one (I a_aAs), .one (I a_aSource)] : List AV) = [.one (.sl (List.map GInbox.enc (l_toInboxS a_aL))), .one (I a_aAs), .one (I a_aSource)], MeetsAt Try.prog 31 [.one (.sl (List.map GInbox.enc (l_toInboxS a_aL))), .one (I a_aAs), .one (I a_aSource)] [.one (I (i_FindInbox (l_toInboxS a_aL) a_aAs a_aSource))] (none)] (by kernel_rfl) ⟨rfl, (i_FindInbox_ok (l_toInboxS a_aL) a_aAs a_aSource), trivial⟩ (?_)
    refine andThen_normal ?_
    refine aw_seq ?_
    refine aw_seq ?_
    refine aw_reg [] [0, 9, 29] [1352] [] ⟨[(0, none, .val (.one (.sl (List.map GInbox.enc a_aL)))), (9, none, .val (.one (.row 1352))), (29, none, .val (.one (b1 (((i_FindInbox (l_toInboxS a_aL) a_aAs a_aSource) : Int) != (s_FindInbox (l_toInboxS a_aL) a_aAs a_aSource)))))], [(1352, .row 26 4 (List.map GInbox.enc (l_toInboxS a_aL)) true)]⟩ [] (by kernel_rfl) trivial (?_)
    refine andThen_normal ?_
    refine aw_cond (((i_FindInbox (l_toInboxS a_aL) a_aAs a_aSource) : Int) != (s_FindInbox (l_toInboxS a_aL) a_aAs a_aSource)) (by kernel_rfl) (fun h2 => ?_) (fun h2 => ?_)
    · rw [h2, cond_true] at hs
      refine aw_seq ?_
      refine aw_reg [] [6] [] [] ⟨[(6, none, .val (.one (b1 false)))], []⟩ [] (by kernel_rfl) trivial (?_)
      refine andThen_normal ?_
      exact aw_ret (ret_thru (ends_data (ys := [.one (b1 false)]) (.inl rfl) (by kernel_rfl) (by kernel_rfl) hs))
    · rw [h2, cond_false] at hs
      refine aw_pick [0, 9] [1352] ⟨[(0, none, .val (.one (.sl (List.map GInbox.enc a_aL)))), (9, none, .val (.one (.row 1352)))], [(1352, .row 26 4 (List.map GInbox.enc (l_toInboxS a_aL)) true)]⟩ (by kernel_rfl) ?_
      refine aw_skip ?_
      refine andThen_normal ?_
      refine aw_seq ?_
      refine aw_seq ?_
      refine aw_reg [(32, .call [.one (.sl (List.map GInbox.enc a_aL))] [.one (.sl (List.map GInbox.enc (l_toInboxS a_aL)))] (some [[(26, 4)]])), (33, .call [.one (.sl (List.map GInbox.enc (l_toInboxS a_aL))), .one (.sl (List.map GInbox.enc (l_toInboxS a_aL)))] [.one (b1 (l_eqInboxS (l_toInboxS a_aL) (l_toInboxS a_aL)))] (none))] [34] [] [] ⟨[(34, none, .val (.one (b1 (!(l_eqInboxS (l_toInboxS a_aL) (l_toInboxS a_aL))))))], []⟩ [([.one (.sl (List.map GInbox.enc a_aL))] : List AV) = [.one (.sl (List.map GInbox.enc a_aL))], MeetsAt Try.prog 30 [.one (.sl (List.map GInbox.enc a_aL))] [.one (.sl (List.map GInbox.enc (l_toInboxS a_aL)))] (some [[(26, 4)]]), ([.one (.sl (List.map GInbox.enc (l_toInboxS a_aL))), .one (.sl (List.map GInbox.enc (l_toInboxS a_aL)))] : List AV) = [.one (.sl (List.map GInbox.enc (l_toInboxS a_aL))), .one (.sl (List.map GInbox.enc (l_toInboxS a_aL)))], MeetsAt Try.prog 32 [.one (.sl (List.map GInbox.enc (l_toInboxS a_aL))), .one (.sl (List.map GInbox.enc (l_toInboxS a_aL)))] [.one (b1 (l_eqInboxS (l_toInboxS a_aL) (l_toInboxS a_aL)))] (none)] (by kernel_rfl) ⟨rfl, (l_toInboxS_ok a_aL (by first | assumption | exact hp _ (by simp []) | exact hf0 (by assumption) | exact hf1 (by assumption) (by assumption) | omega)), rfl, (l_eqInboxS_ok (l_toInboxS a_aL) (l_toInboxS a_aL)), trivial⟩ (?_)
      refine andThen_normal ?_
      refine aw_cond (!(l_eqInboxS (l_toInboxS a_aL) (l_toInboxS a_aL))) (by kernel_rfl) (fun h3 => ?_) (fun h3 => ?_)
      · rw [h3, cond_true] at hs
        refine aw_seq ?_
        refine aw_reg [] [6] [] [] ⟨[(6, none, .val (.one (b1 false)))], []⟩ [] (by kernel_rfl) trivial (?_)
        refine andThen_normal ?_
        exact aw_ret (ret_thru (ends_data (ys := [.one (b1 false)]) (.inl rfl) (by kernel_rfl) (by kernel_rfl) hs))
      · rw [h3, cond_false] at hs
        refine aw_pick [] [] ⟨[], []⟩ (by kernel_rfl) ?_
        refine aw_skip ?_
        refine andThen_normal ?_
        refine aw_seq ?_
        refine aw_reg [] [6] [] [] ⟨[(6, none, .val (.one (b1 true)))], []⟩ [] (by kernel_rfl) trivial (?_)
        refine andThen_normal ?_
        exact aw_ret (ends_data (ys := [.one (b1 true)]) (.inl rfl) (by kernel_rfl) (by kernel_rfl) hs)

end Go.Proofs.Ytdmiboplfgmgiaa
