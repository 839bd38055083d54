/-
  Each function that law FnExactEventName reaches computes what its definition says. Printed by a program. Conditions: those of each theorem.
-/
import Derived.Test.YtdmiboplfgmgiaaGl
import Derived.Test.YtdmiboplfgmgiaaProg
set_option linter.unusedVariables false
set_option linter.unusedSimpArgs false
set_option maxRecDepth 100000
namespace Go.Proofs.Ytdmiboplfgmgiaa
open Go.Ab
theorem s_l1In_ok (a_x : Int) (a_least : Int) (a_most : Int) : MeetsAt Try.prog 57 [.one (I a_x), .one (I a_least), .one (I a_most)] [.one (b1 (s_l1In a_x a_least a_most))] none := by
  generalize hs : ([.one (b1 (s_l1In a_x a_least a_most))] : List AV) = outs
  unfold s_l1In at hs
  refine meets_data Try.func57 rfl (by kernel_rfl) (Nat.le_of_ble_eq_true rfl) ?_
  rintro ⟨P, m, w0, B, src, hsrc⟩ rfl rfl
  refine aw_seq ?_
  refine aw_reg [] [0, 1, 2] [] [] ⟨[(0, none, .val (.one (I a_x))), (1, none, .val (.one (I a_least))), (2, none, .val (.one (I a_most)))], []⟩ [] (by kernel_rfl) trivial (?_)
  refine andThen_normal ?_
  refine aw_seq ?_
  refine aw_reg [] [6] [] [] ⟨[(6, none, .val (.one (b1 (cond (decide ((a_x : Int) ≥ a_least)) (decide ((a_x : Int) ≤ a_most)) false))))], []⟩ [(decide ((a_x : Int) ≥ a_least)) = true → (decide ((a_x : Int) ≥ a_least)) = true, (decide ((a_x : Int) ≥ a_least)) = true → (decide ((a_x : Int) ≥ a_least)) = true, (decide ((a_x : Int) ≥ a_least)) = true → (decide ((a_x : Int) ≥ a_least)) = true] (by kernel_rfl) ⟨(fun hg => (by first | assumption | simp_all)), (fun hg => (by first | assumption | simp_all)), (by first | exact id | (intro h; rw [h]; rfl) | (intros; simp_all)), trivial⟩ (?_)
  refine andThen_normal ?_
  exact aw_ret (ends_data (ys := [.one (b1 (cond (decide ((a_x : Int) ≥ a_least)) (decide ((a_x : Int) ≤ a_most)) false))]) (.inl rfl) (by kernel_rfl) (by kernel_rfl) hs)

theorem i_InRange_ok (a_n : Int) (a_a : Int) (a_b : Int) : MeetsAt Try.prog 58 [.one (I a_n), .one (I a_a), .one (I a_b)] [.one (b1 (i_InRange a_n a_a a_b))] none := by
  generalize hs : ([.one (b1 (i_InRange a_n a_a a_b))] : List AV) = outs
  unfold i_InRange at hs
  refine meets_data Try.func58 rfl (by kernel_rfl) (Nat.le_of_ble_eq_true rfl) ?_
  rintro ⟨P, m, w0, B, src, hsrc⟩ rfl rfl
  refine aw_seq ?_
  refine aw_reg [] [0, 1, 2] [] [] ⟨[(0, none, .val (.one (I a_n))), (1, none, .val (.one (I a_a))), (2, none, .val (.one (I a_b)))], []⟩ [] (by kernel_rfl) trivial (?_)
  refine andThen_normal ?_
  refine aw_seq ?_
  refine aw_reg [] [6] [] [] ⟨[(6, none, .val (.one (b1 (cond (decide ((a_n : Int) ≥ a_a)) (decide ((a_n : Int) ≤ a_b)) false))))], []⟩ [(decide ((a_n : Int) ≥ a_a)) = true → (decide ((a_n : Int) ≥ a_a)) = true, (decide ((a_n : Int) ≥ a_a)) = true → (decide ((a_n : Int) ≥ a_a)) = true, (decide ((a_n : Int) ≥ a_a)) = true → (decide ((a_n : Int) ≥ a_a)) = true] (by kernel_rfl) ⟨(fun hg => (by first | assumption | simp_all)), (fun hg => (by first | assumption | simp_all)), (by first | exact id | (intro h; rw [h]; rfl) | (intros; simp_all)), trivial⟩ (?_)
  refine andThen_normal ?_
  exact aw_ret (ends_data (ys := [.one (b1 (cond (decide ((a_n : Int) ≥ a_a)) (decide ((a_n : Int) ≤ a_b)) false))]) (.inl rfl) (by kernel_rfl) (by kernel_rfl) hs)

theorem s_EventName_ok (a_kind : Int) : MeetsAt Try.prog 15 [.one (I a_kind)] [.one (S1 (s_EventName a_kind))] none := by
  generalize hs : ([.one (S1 (s_EventName a_kind))] : List AV) = outs
  unfold s_EventName at hs
  refine meets_data Try.func15 rfl (by kernel_rfl) (Nat.le_of_ble_eq_true rfl) ?_
  rintro ⟨P, m, w0, B, src, hsrc⟩ rfl rfl
  refine aw_seq ?_
  refine aw_reg [] [0] [] [] ⟨[(0, none, .val (.one (I a_kind)))], []⟩ [] (by kernel_rfl) trivial (?_)
  refine andThen_normal ?_
  refine aw_seq ?_
  refine aw_reg [] [0, 3] [4] [] ⟨[(0, none, .val (.one (I a_kind))), (3, none, .val (.one (.row 4)))], [(4, .row 9 1 ([[S1 (bs #[])], [S1 (bs #[116, 105, 99, 107])], [S1 (bs #[100, 101, 108, 105, 118, 101, 114])], [S1 (bs #[100, 114, 111, 112])], [S1 (bs #[100, 117, 112, 108, 105, 99, 97, 116, 101])], [S1 (bs #[102, 97, 105, 108])], [S1 (bs #[114, 101, 112, 97, 105, 114])], [S1 (bs #[105, 110, 106, 101, 99, 116])], [S1 (bs #[115, 101, 110, 100])], [S1 (bs #[114, 101, 102, 114, 101, 115, 104])]]) true)]⟩ [] (by kernel_rfl) trivial (q_cast ⟨[(0, none, .val (.one (I a_kind))), (3, none, .val (.one (.row 4)))], [(4, .row 9 1 (List.map encS ([bs #[], bs #[116, 105, 99, 107], bs #[100, 101, 108, 105, 118, 101, 114], bs #[100, 114, 111, 112], bs #[100, 117, 112, 108, 105, 99, 97, 116, 101], bs #[102, 97, 105, 108], bs #[114, 101, 112, 97, 105, 114], bs #[105, 110, 106, 101, 99, 116], bs #[115, 101, 110, 100], bs #[114, 101, 102, 114, 101, 115, 104]])) true)]⟩ (by simp only [Int.toNat_natCast, List.length_map, List.nil_append, List.map_append, List.map_cons, List.map_nil, List.map_take, List.map_drop, List.map_replicate, encI, encS, encU]) ?_)
  refine andThen_normal ?_
  refine aw_seq ?_
  refine aw_seq ?_
  refine aw_reg [(9, .call [.one (I a_kind), .one (I 0), .one (I (wr ((([bs #[], bs #[116, 105, 99, 107], bs #[100, 101, 108, 105, 118, 101, 114], bs #[100, 114, 111, 112], bs #[100, 117, 112, 108, 105, 99, 97, 116, 101], bs #[102, 97, 105, 108], bs #[114, 101, 112, 97, 105, 114], bs #[105, 110, 106, 101, 99, 116], bs #[115, 101, 110, 100], bs #[114, 101, 102, 114, 101, 115, 104]]).length : Int) - 1)))] [.one (b1 (s_l1In a_kind 0 (wr ((([bs #[], bs #[116, 105, 99, 107], bs #[100, 101, 108, 105, 118, 101, 114], bs #[100, 114, 111, 112], bs #[100, 117, 112, 108, 105, 99, 97, 116, 101], bs #[102, 97, 105, 108], bs #[114, 101, 112, 97, 105, 114], bs #[105, 110, 106, 101, 99, 116], bs #[115, 101, 110, 100], bs #[114, 101, 102, 114, 101, 115, 104]]).length : Int) - 1))))] (none))] [0, 3, 10] [4] [] ⟨[(0, none, .val (.one (I a_kind))), (3, none, .val (.one (.row 4))), (10, none, .val (.one (b1 (!(s_l1In a_kind 0 (wr ((([bs #[], bs #[116, 105, 99, 107], bs #[100, 101, 108, 105, 118, 101, 114], bs #[100, 114, 111, 112], bs #[100, 117, 112, 108, 105, 99, 97, 116, 101], bs #[102, 97, 105, 108], bs #[114, 101, 112, 97, 105, 114], bs #[105, 110, 106, 101, 99, 116], bs #[115, 101, 110, 100], bs #[114, 101, 102, 114, 101, 115, 104]]).length : Int) - 1)))))))], [(4, .row 9 1 (List.map encS ([bs #[], bs #[116, 105, 99, 107], bs #[100, 101, 108, 105, 118, 101, 114], bs #[100, 114, 111, 112], bs #[100, 117, 112, 108, 105, 99, 97, 116, 101], bs #[102, 97, 105, 108], bs #[114, 101, 112, 97, 105, 114], bs #[105, 110, 106, 101, 99, 116], bs #[115, 101, 110, 100], bs #[114, 101, 102, 114, 101, 115, 104]])) true)]⟩ [([.one (I a_kind), .one (I 0), .one (I (wr (((List.map encS ([bs #[], bs #[116, 105, 99, 107], bs #[100, 101, 108, 105, 118, 101, 114], bs #[100, 114, 111, 112], bs #[100, 117, 112, 108, 105, 99, 97, 116, 101], bs #[102, 97, 105, 108], bs #[114, 101, 112, 97, 105, 114], bs #[105, 110, 106, 101, 99, 116], bs #[115, 101, 110, 100], bs #[114, 101, 102, 114, 101, 115, 104]])).length : Int) - 1)))] : List AV) = [.one (I a_kind), .one (I 0), .one (I (wr ((([bs #[], bs #[116, 105, 99, 107], bs #[100, 101, 108, 105, 118, 101, 114], bs #[100, 114, 111, 112], bs #[100, 117, 112, 108, 105, 99, 97, 116, 101], bs #[102, 97, 105, 108], bs #[114, 101, 112, 97, 105, 114], bs #[105, 110, 106, 101, 99, 116], bs #[115, 101, 110, 100], bs #[114, 101, 102, 114, 101, 115, 104]]).length : Int) - 1)))], MeetsAt Try.prog 57 [.one (I a_kind), .one (I 0), .one (I (wr ((([bs #[], bs #[116, 105, 99, 107], bs #[100, 101, 108, 105, 118, 101, 114], bs #[100, 114, 111, 112], bs #[100, 117, 112, 108, 105, 99, 97, 116, 101], bs #[102, 97, 105, 108], bs #[114, 101, 112, 97, 105, 114], bs #[105, 110, 106, 101, 99, 116], bs #[115, 101, 110, 100], bs #[114, 101, 102, 114, 101, 115, 104]]).length : Int) - 1)))] [.one (b1 (s_l1In a_kind 0 (wr ((([bs #[], bs #[116, 105, 99, 107], bs #[100, 101, 108, 105, 118, 101, 114], bs #[100, 114, 111, 112], bs #[100, 117, 112, 108, 105, 99, 97, 116, 101], bs #[102, 97, 105, 108], bs #[114, 101, 112, 97, 105, 114], bs #[105, 110, 106, 101, 99, 116], bs #[115, 101, 110, 100], bs #[114, 101, 102, 114, 101, 115, 104]]).length : Int) - 1))))] (none)] (by kernel_rfl) ⟨(by first | rfl | simp only [Int.toNat_natCast, List.length_map, List.nil_append, List.map_append, List.map_cons, List.map_nil, List.map_take, List.map_drop, List.map_replicate]), (s_l1In_ok a_kind 0 (wr ((([bs #[], bs #[116, 105, 99, 107], bs #[100, 101, 108, 105, 118, 101, 114], bs #[100, 114, 111, 112], bs #[100, 117, 112, 108, 105, 99, 97, 116, 101], bs #[102, 97, 105, 108], bs #[114, 101, 112, 97, 105, 114], bs #[105, 110, 106, 101, 99, 116], bs #[115, 101, 110, 100], bs #[114, 101, 102, 114, 101, 115, 104]]).length : Int) - 1))), trivial⟩ (?_)
  refine andThen_normal ?_
  refine aw_cond (!(s_l1In a_kind 0 (wr ((([bs #[], bs #[116, 105, 99, 107], bs #[100, 101, 108, 105, 118, 101, 114], bs #[100, 114, 111, 112], bs #[100, 117, 112, 108, 105, 99, 97, 116, 101], bs #[102, 97, 105, 108], bs #[114, 101, 112, 97, 105, 114], bs #[105, 110, 106, 101, 99, 116], bs #[115, 101, 110, 100], bs #[114, 101, 102, 114, 101, 115, 104]]).length : Int) - 1)))) (by kernel_rfl) (fun h1 => ?_) (fun h1 => ?_)
  · rw [h1, cond_true] at hs
    refine aw_seq ?_
    refine aw_reg [] [2] [] [] ⟨[(2, none, .val (.one (S1 (bs #[]))))], []⟩ [] (by kernel_rfl) trivial (?_)
    refine andThen_normal ?_
    exact aw_ret (ret_thru (ends_data (ys := [.one (S1 (bs #[]))]) (.inl rfl) (by kernel_rfl) (by kernel_rfl) hs))
  · rw [h1, cond_false] at hs
    refine aw_pick [0, 3] [4] ⟨[(0, none, .val (.one (I a_kind))), (3, none, .val (.one (.row 4)))], [(4, .row 9 1 (List.map encS ([bs #[], bs #[116, 105, 99, 107], bs #[100, 101, 108, 105, 118, 101, 114], bs #[100, 114, 111, 112], bs #[100, 117, 112, 108, 105, 99, 97, 116, 101], bs #[102, 97, 105, 108], bs #[114, 101, 112, 97, 105, 114], bs #[105, 110, 106, 101, 99, 116], bs #[115, 101, 110, 100], bs #[114, 101, 102, 114, 101, 115, 104]])) true)]⟩ (by kernel_rfl) ?_
    refine aw_skip ?_
    refine andThen_normal ?_
    refine aw_seq ?_
    refine aw_reg [(14, .elem (encS (([bs #[], bs #[116, 105, 99, 107], bs #[100, 101, 108, 105, 118, 101, 114], bs #[100, 114, 111, 112], bs #[100, 117, 112, 108, 105, 99, 97, 116, 101], bs #[102, 97, 105, 108], bs #[114, 101, 112, 97, 105, 114], bs #[105, 110, 106, 101, 99, 116], bs #[115, 101, 110, 100], bs #[114, 101, 102, 114, 101, 115, 104]]).getD a_kind.toNat (bs #[]))))] [2] [] [] ⟨[(2, none, .val (.one (S1 (([bs #[], bs #[116, 105, 99, 107], bs #[100, 101, 108, 105, 118, 101, 114], bs #[100, 114, 111, 112], bs #[100, 117, 112, 108, 105, 99, 97, 116, 101], bs #[102, 97, 105, 108], bs #[114, 101, 112, 97, 105, 114], bs #[105, 110, 106, 101, 99, 116], bs #[115, 101, 110, 100], bs #[114, 101, 102, 114, 101, 115, 104]]).getD a_kind.toNat (bs #[])))))], []⟩ [(0 : Int) ≤ a_kind, a_kind < ((List.map encS ([bs #[], bs #[116, 105, 99, 107], bs #[100, 101, 108, 105, 118, 101, 114], bs #[100, 114, 111, 112], bs #[100, 117, 112, 108, 105, 99, 97, 116, 101], bs #[102, 97, 105, 108], bs #[114, 101, 112, 97, 105, 114], bs #[105, 110, 106, 101, 99, 116], bs #[115, 101, 110, 100], bs #[114, 101, 102, 114, 101, 115, 104]])).length : Int), (List.map encS ([bs #[], bs #[116, 105, 99, 107], bs #[100, 101, 108, 105, 118, 101, 114], bs #[100, 114, 111, 112], bs #[100, 117, 112, 108, 105, 99, 97, 116, 101], bs #[102, 97, 105, 108], bs #[114, 101, 112, 97, 105, 114], bs #[105, 110, 106, 101, 99, 116], bs #[115, 101, 110, 100], bs #[114, 101, 102, 114, 101, 115, 104]]))[(a_kind).toNat]? = some (encS (([bs #[], bs #[116, 105, 99, 107], bs #[100, 101, 108, 105, 118, 101, 114], bs #[100, 114, 111, 112], bs #[100, 117, 112, 108, 105, 99, 97, 116, 101], bs #[102, 97, 105, 108], bs #[114, 101, 112, 97, 105, 114], bs #[105, 110, 106, 101, 99, 116], bs #[115, 101, 110, 100], bs #[114, 101, 102, 114, 101, 115, 104]]).getD a_kind.toNat (bs #[])))] (by kernel_rfl) ⟨(by first | omega | (simp only [List.length_map, List.length_append, List.length_cons, List.length_nil, List.length_replicate, List.length_set, decide_eq_true_eq, Bool.and_eq_true, Bool.not_eq_true', decide_eq_false_iff_not, Bool.cond_false_right, Bool.not_eq_false', Bool.cond_true_left, Bool.or_eq_false_iff, Bool.or_eq_true, bne_eq_false_iff_eq, bne_iff_ne, beq_iff_eq, beq_eq_false_iff_ne, ne_eq, Int.not_lt, Int.not_le, ge_iff_le, gt_iff_lt, maxLen, s_l1In, wr, IntKind.wrap_i64] at *; omega)), (by first | omega | (simp only [List.length_map, List.length_append, List.length_cons, List.length_nil, List.length_replicate, List.length_set, decide_eq_true_eq, Bool.and_eq_true, Bool.not_eq_true', decide_eq_false_iff_not, Bool.cond_false_right, Bool.not_eq_false', Bool.cond_true_left, Bool.or_eq_false_iff, Bool.or_eq_true, bne_eq_false_iff_eq, bne_iff_ne, beq_iff_eq, beq_eq_false_iff_ne, ne_eq, Int.not_lt, Int.not_le, ge_iff_le, gt_iff_lt, maxLen, s_l1In, wr, IntKind.wrap_i64] at *; omega)), (el_getD (n := (((a_kind).toNat : Nat) : Int)) (by first | omega | (simp only [List.length_map, List.length_append, List.length_cons, List.length_nil, List.length_replicate, List.length_set, decide_eq_true_eq, Bool.and_eq_true, Bool.not_eq_true', decide_eq_false_iff_not, Bool.cond_false_right, Bool.not_eq_false', Bool.cond_true_left, Bool.or_eq_false_iff, Bool.or_eq_true, bne_eq_false_iff_eq, bne_iff_ne, beq_iff_eq, beq_eq_false_iff_ne, ne_eq, Int.not_lt, Int.not_le, ge_iff_le, gt_iff_lt, maxLen, s_l1In, wr, IntKind.wrap_i64] at *; omega)) (by first | omega | (simp only [List.length_map, List.length_append, List.length_cons, List.length_nil, List.length_replicate, List.length_set, decide_eq_true_eq, Bool.and_eq_true, Bool.not_eq_true', decide_eq_false_iff_not, Bool.cond_false_right, Bool.not_eq_false', Bool.cond_true_left, Bool.or_eq_false_iff, Bool.or_eq_true, bne_eq_false_iff_eq, bne_iff_ne, beq_iff_eq, beq_eq_false_iff_ne, ne_eq, Int.not_lt, Int.not_le, ge_iff_le, gt_iff_lt, maxLen, s_l1In, wr, IntKind.wrap_i64] at *; omega))), trivial⟩ (?_)
    refine andThen_normal ?_
    exact aw_ret (ends_data (ys := [.one (S1 (([bs #[], bs #[116, 105, 99, 107], bs #[100, 101, 108, 105, 118, 101, 114], bs #[100, 114, 111, 112], bs #[100, 117, 112, 108, 105, 99, 97, 116, 101], bs #[102, 97, 105, 108], bs #[114, 101, 112, 97, 105, 114], bs #[105, 110, 106, 101, 99, 116], bs #[115, 101, 110, 100], bs #[114, 101, 102, 114, 101, 115, 104]]).getD a_kind.toNat (bs #[])))]) (.inl rfl) (by kernel_rfl) (by kernel_rfl) hs)

theorem i_EventName_ok (a_kind : Int) : MeetsAt Try.prog 16 [.one (I a_kind)] [.one (S1 (i_EventName a_kind))] none := by
  generalize hs : ([.one (S1 (i_EventName a_kind))] : List AV) = outs
  unfold i_EventName at hs
  refine meets_data Try.func16 rfl (by kernel_rfl) (Nat.le_of_ble_eq_true rfl) ?_
  rintro ⟨P, m, w0, B, src, hsrc⟩ rfl rfl
  refine aw_seq ?_
  refine aw_reg [] [0] [] [] ⟨[(0, none, .val (.one (I a_kind)))], []⟩ [] (by kernel_rfl) trivial (?_)
  refine andThen_normal ?_
  refine aw_seq ?_
  refine aw_seq ?_
  refine aw_reg [(4, .call [.one (I a_kind), .one (I 1), .one (I 9)] [.one (b1 (i_InRange a_kind 1 9))] (none))] [0, 5] [] [] ⟨[(0, none, .val (.one (I a_kind))), (5, none, .val (.one (b1 (!(i_InRange a_kind 1 9)))))], []⟩ [([.one (I a_kind), .one (I 1), .one (I 9)] : List AV) = [.one (I a_kind), .one (I 1), .one (I 9)], MeetsAt Try.prog 58 [.one (I a_kind), .one (I 1), .one (I 9)] [.one (b1 (i_InRange a_kind 1 9))] (none)] (by kernel_rfl) ⟨rfl, (i_InRange_ok a_kind 1 9), trivial⟩ (?_)
  refine andThen_normal ?_
  refine aw_cond (!(i_InRange a_kind 1 9)) (by kernel_rfl) (fun h1 => ?_) (fun h1 => ?_)
  · rw [h1, cond_true] at hs
    refine aw_seq ?_
    refine aw_reg [] [2] [] [] ⟨[(2, none, .val (.one (S1 (bs #[]))))], []⟩ [] (by kernel_rfl) trivial (?_)
    refine andThen_normal ?_
    exact aw_ret (ret_thru (ends_data (ys := [.one (S1 (bs #[]))]) (.inl rfl) (by kernel_rfl) (by kernel_rfl) hs))
  · rw [h1, cond_false] at hs
    refine aw_pick [0] [] ⟨[(0, none, .val (.one (I a_kind)))], []⟩ (by kernel_rfl) ?_
    refine aw_skip ?_
    refine andThen_normal ?_
    refine aw_seq ?_
    refine aw_reg [(8, .elem [S1 ([bs #[], bs #[116, 105, 99, 107], bs #[100, 101, 108, 105, 118, 101, 114], bs #[100, 114, 111, 112], bs #[100, 117, 112, 108, 105, 99, 97, 116, 101], bs #[102, 97, 105, 108], bs #[114, 101, 112, 97, 105, 114], bs #[105, 110, 106, 101, 99, 116], bs #[115, 101, 110, 100], bs #[114, 101, 102, 114, 101, 115, 104]].getD a_kind.toNat (bs #[]))])] [2] [] [] ⟨[(2, none, .val (.one (S1 ([bs #[], bs #[116, 105, 99, 107], bs #[100, 101, 108, 105, 118, 101, 114], bs #[100, 114, 111, 112], bs #[100, 117, 112, 108, 105, 99, 97, 116, 101], bs #[102, 97, 105, 108], bs #[114, 101, 112, 97, 105, 114], bs #[105, 110, 106, 101, 99, 116], bs #[115, 101, 110, 100], bs #[114, 101, 102, 114, 101, 115, 104]].getD a_kind.toNat (bs #[])))))], []⟩ [(0 : Int) ≤ a_kind, a_kind < ((10 : Nat) : Int), ([S1 (bs #[]), S1 (bs #[116, 105, 99, 107]), S1 (bs #[100, 101, 108, 105, 118, 101, 114]), S1 (bs #[100, 114, 111, 112]), S1 (bs #[100, 117, 112, 108, 105, 99, 97, 116, 101]), S1 (bs #[102, 97, 105, 108]), S1 (bs #[114, 101, 112, 97, 105, 114]), S1 (bs #[105, 110, 106, 101, 99, 116]), S1 (bs #[115, 101, 110, 100]), S1 (bs #[114, 101, 102, 114, 101, 115, 104])] : List T)[(a_kind : Int).toNat]? = some (S1 ([bs #[], bs #[116, 105, 99, 107], bs #[100, 101, 108, 105, 118, 101, 114], bs #[100, 114, 111, 112], bs #[100, 117, 112, 108, 105, 99, 97, 116, 101], bs #[102, 97, 105, 108], bs #[114, 101, 112, 97, 105, 114], bs #[105, 110, 106, 101, 99, 116], bs #[115, 101, 110, 100], bs #[114, 101, 102, 114, 101, 115, 104]].getD a_kind.toNat (bs #[])))] (by kernel_rfl) ⟨(by first | omega | (simp only [List.length_map, List.length_append, List.length_cons, List.length_nil, List.length_replicate, List.length_set, decide_eq_true_eq, Bool.and_eq_true, Bool.not_eq_true', decide_eq_false_iff_not, Bool.cond_false_right, Bool.not_eq_false', Bool.cond_true_left, Bool.or_eq_false_iff, Bool.or_eq_true, bne_eq_false_iff_eq, bne_iff_ne, beq_iff_eq, beq_eq_false_iff_ne, ne_eq, Int.not_lt, Int.not_le, ge_iff_le, gt_iff_lt, maxLen, i_InRange] at *; omega)), (by first | omega | (simp only [List.length_map, List.length_append, List.length_cons, List.length_nil, List.length_replicate, List.length_set, decide_eq_true_eq, Bool.and_eq_true, Bool.not_eq_true', decide_eq_false_iff_not, Bool.cond_false_right, Bool.not_eq_false', Bool.cond_true_left, Bool.or_eq_false_iff, Bool.or_eq_true, bne_eq_false_iff_eq, bne_iff_ne, beq_iff_eq, beq_eq_false_iff_ne, ne_eq, Int.not_lt, Int.not_le, ge_iff_le, gt_iff_lt, maxLen, i_InRange] at *; omega)), (el_arr (l := [bs #[], bs #[116, 105, 99, 107], bs #[100, 101, 108, 105, 118, 101, 114], bs #[100, 114, 111, 112], bs #[100, 117, 112, 108, 105, 99, 97, 116, 101], bs #[102, 97, 105, 108], bs #[114, 101, 112, 97, 105, 114], bs #[105, 110, 106, 101, 99, 116], bs #[115, 101, 110, 100], bs #[114, 101, 102, 114, 101, 115, 104]]) (n := a_kind) (f := fun z => S1 z) (by first | omega | (simp only [List.length_map, List.length_append, List.length_cons, List.length_nil, List.length_replicate, List.length_set, decide_eq_true_eq, Bool.and_eq_true, Bool.not_eq_true', decide_eq_false_iff_not, Bool.cond_false_right, Bool.not_eq_false', Bool.cond_true_left, Bool.or_eq_false_iff, Bool.or_eq_true, bne_eq_false_iff_eq, bne_iff_ne, beq_iff_eq, beq_eq_false_iff_ne, ne_eq, Int.not_lt, Int.not_le, ge_iff_le, gt_iff_lt, maxLen, i_InRange] at *; omega)) (by first | omega | (simp only [List.length_map, List.length_append, List.length_cons, List.length_nil, List.length_replicate, List.length_set, decide_eq_true_eq, Bool.and_eq_true, Bool.not_eq_true', decide_eq_false_iff_not, Bool.cond_false_right, Bool.not_eq_false', Bool.cond_true_left, Bool.or_eq_false_iff, Bool.or_eq_true, bne_eq_false_iff_eq, bne_iff_ne, beq_iff_eq, beq_eq_false_iff_ne, ne_eq, Int.not_lt, Int.not_le, ge_iff_le, gt_iff_lt, maxLen, i_InRange] at *; omega))), trivial⟩ (?_)
    refine andThen_normal ?_
    exact aw_ret (ends_data (ys := [.one (S1 ([bs #[], bs #[116, 105, 99, 107], bs #[100, 101, 108, 105, 118, 101, 114], bs #[100, 114, 111, 112], bs #[100, 117, 112, 108, 105, 99, 97, 116, 101], bs #[102, 97, 105, 108], bs #[114, 101, 112, 97, 105, 114], bs #[105, 110, 106, 101, 99, 116], bs #[115, 101, 110, 100], bs #[114, 101, 102, 114, 101, 115, 104]].getD a_kind.toNat (bs #[])))]) (.inl rfl) (by kernel_rfl) (by kernel_rfl) hs)

theorem l_FnExactEventName_ok (a_aKind : Int) : MeetsAt Try.prog 3 [.one (I a_aKind)] [.one (b1 (l_FnExactEventName a_aKind))] none := by
  generalize hs : ([.one (b1 (l_FnExactEventName a_aKind))] : List AV) = outs
  unfold l_FnExactEventName at hs
  refine meets_data Try.func3 rfl (by kernel_rfl) (Nat.le_of_ble_eq_true rfl) ?_
  rintro ⟨P, m, w0, B, src, hsrc⟩ rfl rfl
  refine aw_seq ?_
  refine aw_reg [] [0] [] [] ⟨[(0, none, .val (.one (I a_aKind)))], []⟩ [] (by kernel_rfl) trivial (?_)
  refine andThen_normal ?_
  refine aw_seq ?_
  refine aw_reg [(6, .call [.one (I a_aKind)] [.one (S1 (s_EventName a_aKind))] (none))] [0, 3] [] [] ⟨[(0, none, .val (.one (I a_aKind))), (3, none, .val (.one (S1 (s_EventName a_aKind))))], []⟩ [([.one (I a_aKind)] : List AV) = [.one (I a_aKind)], MeetsAt Try.prog 15 [.one (I a_aKind)] [.one (S1 (s_EventName a_aKind))] (none)] (by kernel_rfl) ⟨rfl, (s_EventName_ok a_aKind), trivial⟩ (?_)
  refine andThen_normal ?_
  refine aw_seq ?_
  refine aw_reg [(8, .call [.one (I a_aKind)] [.one (S1 (i_EventName a_aKind))] (none))] [3, 4] [] [] ⟨[(3, none, .val (.one (S1 (s_EventName a_aKind)))), (4, none, .val (.one (S1 (i_EventName a_aKind))))], []⟩ [([.one (I a_aKind)] : List AV) = [.one (I a_aKind)], MeetsAt Try.prog 16 [.one (I a_aKind)] [.one (S1 (i_EventName a_aKind))] (none)] (by kernel_rfl) ⟨rfl, (i_EventName_ok a_aKind), trivial⟩ (?_)
  refine andThen_normal ?_
  refine aw_seq ?_
  refine aw_seq ?_
  refine aw_reg [] [11] [] [] ⟨[(11, none, .val (.one (b1 (!((i_EventName a_aKind).toList == (s_EventName a_aKind).toList)))))], []⟩ [] (by kernel_rfl) trivial (?_)
  refine andThen_normal ?_
  refine aw_cond (!((i_EventName a_aKind).toList == (s_EventName a_aKind).toList)) (by kernel_rfl) (fun h1 => ?_) (fun h1 => ?_)
  · rw [h1, cond_true] at hs
    refine aw_seq ?_
    refine aw_reg [] [2] [] [] ⟨[(2, none, .val (.one (b1 false)))], []⟩ [] (by kernel_rfl) trivial (?_)
    refine andThen_normal ?_
    exact aw_ret (ret_thru (ends_data (ys := [.one (b1 false)]) (.inl rfl) (by kernel_rfl) (by kernel_rfl) hs))
  · rw [h1, cond_false] at hs
    refine aw_pick [] [] ⟨[], []⟩ (by kernel_rfl) ?_
    refine aw_skip ?_
    refine andThen_normal ?_
    refine aw_seq ?_
    refine aw_reg [] [2] [] [] ⟨[(2, none, .val (.one (b1 true)))], []⟩ [] (by kernel_rfl) trivial (?_)
    refine andThen_normal ?_
    exact aw_ret (ends_data (ys := [.one (b1 true)]) (.inl rfl) (by kernel_rfl) (by kernel_rfl) hs)

end Go.Proofs.Ytdmiboplfgmgiaa
