/-
  Each function that law FnExactEqualInboxes reaches computes what its definition says. Printed by a program. Conditions: those of each theorem.
-/
import Derived.Test.YtdmiboplfgmgiaaGl
import Derived.Test.YtdmiboplfgmgiaaProg
import Derived.Test.YtdmiboplfgmgiaaGp3
set_option linter.unusedVariables false
set_option linter.unusedSimpArgs false
set_option maxRecDepth 100000
namespace Go.Proofs.Ytdmiboplfgmgiaa
open Go.Ab
theorem s_EqualBytes_ok (a_a : List Int) (a_b : List Int) : MeetsAt Try.prog 64 [.one (.sl (List.map encU a_a)), .one (.sl (List.map encU a_b))] [.one (b1 (s_EqualBytes a_a a_b))] none := by
  generalize hs : ([.one (b1 (s_EqualBytes a_a a_b))] : List AV) = outs
  unfold s_EqualBytes at hs
  refine meets_data Try.func64 rfl (by kernel_rfl) (Nat.le_of_ble_eq_true rfl) ?_
  rintro ⟨P, m, w0, B, src, hsrc⟩ rfl rfl
  refine aw_seq ?_
  refine aw_reg [] [0, 1] [] [] ⟨[(0, none, .val (.one (.sl (List.map encU a_a)))), (1, none, .val (.one (.sl (List.map encU a_b))))], []⟩ [] (by kernel_rfl) trivial (?_)
  refine andThen_normal ?_
  refine aw_seq ?_
  refine aw_bytes 0 a_a (by kernel_rfl) (fun hb1 => ?_)
  refine aw_bytes 1 a_b (by kernel_rfl) (fun hb2 => ?_)
  refine aw_reg [(6, .bytes (toU8 a_a)), (8, .bytes (toU8 a_b))] [4] [] [] ⟨[(4, none, .val (.one (b1 ((strOf a_a).toList == (strOf a_b).toList))))], []⟩ [(List.map encU a_a) = bytesT (toU8 a_a), (List.map encU a_b) = bytesT (toU8 a_b)] (by kernel_rfl) ⟨(bytes_eq hb1), (bytes_eq hb2), trivial⟩ (?_)
  refine andThen_normal ?_
  exact aw_ret (ends_data (ys := [.one (b1 ((strOf a_a).toList == (strOf a_b).toList))]) (.inl rfl) (by kernel_rfl) (by kernel_rfl) hs)

theorem i_EqualBytes_ok (a_a : List Int) (a_b : List Int) : MeetsAt Try.prog 104 [.one (.sl (List.map encU a_a)), .one (.sl (List.map encU a_b))] [.one (b1 (i_EqualBytes a_a a_b))] none := by
  generalize hs : ([.one (b1 (i_EqualBytes a_a a_b))] : List AV) = outs
  unfold i_EqualBytes at hs
  refine meets_data Try.func104 rfl (by kernel_rfl) (Nat.le_of_ble_eq_true rfl) ?_
  rintro ⟨P, m, w0, B, src, hsrc⟩ rfl rfl
  refine aw_seq ?_
  refine aw_reg [] [0, 1] [] [] ⟨[(0, none, .val (.one (.sl (List.map encU a_a)))), (1, none, .val (.one (.sl (List.map encU a_b))))], []⟩ [] (by kernel_rfl) trivial (?_)
  refine andThen_normal ?_
  refine aw_seq ?_
  refine aw_bytes 0 a_a (by kernel_rfl) (fun hb1 => ?_)
  refine aw_bytes 1 a_b (by kernel_rfl) (fun hb2 => ?_)
  refine aw_reg [(6, .bytes (toU8 a_a)), (8, .bytes (toU8 a_b))] [4] [] [] ⟨[(4, none, .val (.one (b1 ((strOf a_a).toList == (strOf a_b).toList))))], []⟩ [(List.map encU a_a) = bytesT (toU8 a_a), (List.map encU a_b) = bytesT (toU8 a_b)] (by kernel_rfl) ⟨(bytes_eq hb1), (bytes_eq hb2), trivial⟩ (?_)
  refine andThen_normal ?_
  exact aw_ret (ends_data (ys := [.one (b1 ((strOf a_a).toList == (strOf a_b).toList))]) (.inl rfl) (by kernel_rfl) (by kernel_rfl) hs)

theorem s_EqualInboxes_ok (a_a : GInbox) (a_b : GInbox) : MeetsAt Try.prog 26 [.agg (GInbox.enc a_a), .agg (GInbox.enc a_b)] [.one (b1 (s_EqualInboxes a_a a_b))] none := by
  generalize hs : ([.one (b1 (s_EqualInboxes a_a a_b))] : List AV) = outs
  unfold s_EqualInboxes at hs
  refine meets_data Try.func26 rfl (by kernel_rfl) (Nat.le_of_ble_eq_true rfl) ?_
  rintro ⟨P, m, w0, B, src, hsrc⟩ rfl rfl
  refine aw_seq ?_
  refine aw_reg [] [2, 3] [2, 3] [] ⟨[(2, none, .val (.one (.ptr 2 0))), (3, none, .val (.one (.ptr 3 0)))], [(2, .box [I a_a.AS, I a_a.Source, I a_a.Next, .sl (List.map GMessage.enc a_a.Received)]), (3, .box [I a_b.AS, I a_b.Source, I a_b.Next, .sl (List.map GMessage.enc a_b.Received)])]⟩ [] (by kernel_rfl) trivial (?_)
  refine andThen_normal ?_
  refine aw_seq ?_
  refine aw_seq ?_
  refine aw_reg [] [2, 3, 33] [2, 3] [] ⟨[(2, none, .val (.one (.ptr 2 0))), (3, none, .val (.one (.ptr 3 0))), (33, none, .val (.one (b1 (cond (cond (cond ((a_a.AS : Int) != a_b.AS) true ((a_a.Source : Int) != a_b.Source)) true ((a_a.Next : Int) != a_b.Next)) true ((((List.map GMessage.enc a_a.Received).length : Int) : Int) != ((List.map GMessage.enc a_b.Received).length : Int))))))], [(2, .box [I a_a.AS, I a_a.Source, I a_a.Next, .sl (List.map GMessage.enc a_a.Received)]), (3, .box [I a_b.AS, I a_b.Source, I a_b.Next, .sl (List.map GMessage.enc a_b.Received)])]⟩ [(!((a_a.AS : Int) != a_b.AS)) = true → (!((a_a.AS : Int) != a_b.AS)) = true, (!((a_a.AS : Int) != a_b.AS)) = true → (!((a_a.AS : Int) != a_b.AS)) = true, (!((a_a.AS : Int) != a_b.AS)) = true → (!((a_a.AS : Int) != a_b.AS)) = true, (!((a_a.AS : Int) != a_b.AS)) = true → (!((a_a.AS : Int) != a_b.AS)) = true, ((a_a.AS : Int) != a_b.AS) = false → (!((a_a.AS : Int) != a_b.AS)) = true, (!(cond ((a_a.AS : Int) != a_b.AS) true ((a_a.Source : Int) != a_b.Source))) = true → (!(cond ((a_a.AS : Int) != a_b.AS) true ((a_a.Source : Int) != a_b.Source))) = true, (!(cond ((a_a.AS : Int) != a_b.AS) true ((a_a.Source : Int) != a_b.Source))) = true → (!(cond ((a_a.AS : Int) != a_b.AS) true ((a_a.Source : Int) != a_b.Source))) = true, (!(cond ((a_a.AS : Int) != a_b.AS) true ((a_a.Source : Int) != a_b.Source))) = true → (!(cond ((a_a.AS : Int) != a_b.AS) true ((a_a.Source : Int) != a_b.Source))) = true, (!(cond ((a_a.AS : Int) != a_b.AS) true ((a_a.Source : Int) != a_b.Source))) = true → (!(cond ((a_a.AS : Int) != a_b.AS) true ((a_a.Source : Int) != a_b.Source))) = true, (cond ((a_a.AS : Int) != a_b.AS) true ((a_a.Source : Int) != a_b.Source)) = false → (!(cond ((a_a.AS : Int) != a_b.AS) true ((a_a.Source : Int) != a_b.Source))) = true, (!(cond (cond ((a_a.AS : Int) != a_b.AS) true ((a_a.Source : Int) != a_b.Source)) true ((a_a.Next : Int) != a_b.Next))) = true → (!(cond (cond ((a_a.AS : Int) != a_b.AS) true ((a_a.Source : Int) != a_b.Source)) true ((a_a.Next : Int) != a_b.Next))) = true, (!(cond (cond ((a_a.AS : Int) != a_b.AS) true ((a_a.Source : Int) != a_b.Source)) true ((a_a.Next : Int) != a_b.Next))) = true → (!(cond (cond ((a_a.AS : Int) != a_b.AS) true ((a_a.Source : Int) != a_b.Source)) true ((a_a.Next : Int) != a_b.Next))) = true, (!(cond (cond ((a_a.AS : Int) != a_b.AS) true ((a_a.Source : Int) != a_b.Source)) true ((a_a.Next : Int) != a_b.Next))) = true → (!(cond (cond ((a_a.AS : Int) != a_b.AS) true ((a_a.Source : Int) != a_b.Source)) true ((a_a.Next : Int) != a_b.Next))) = true, (!(cond (cond ((a_a.AS : Int) != a_b.AS) true ((a_a.Source : Int) != a_b.Source)) true ((a_a.Next : Int) != a_b.Next))) = true → (!(cond (cond ((a_a.AS : Int) != a_b.AS) true ((a_a.Source : Int) != a_b.Source)) true ((a_a.Next : Int) != a_b.Next))) = true, (!(cond (cond ((a_a.AS : Int) != a_b.AS) true ((a_a.Source : Int) != a_b.Source)) true ((a_a.Next : Int) != a_b.Next))) = true → (!(cond (cond ((a_a.AS : Int) != a_b.AS) true ((a_a.Source : Int) != a_b.Source)) true ((a_a.Next : Int) != a_b.Next))) = true, (!(cond (cond ((a_a.AS : Int) != a_b.AS) true ((a_a.Source : Int) != a_b.Source)) true ((a_a.Next : Int) != a_b.Next))) = true → (!(cond (cond ((a_a.AS : Int) != a_b.AS) true ((a_a.Source : Int) != a_b.Source)) true ((a_a.Next : Int) != a_b.Next))) = true, (cond (cond ((a_a.AS : Int) != a_b.AS) true ((a_a.Source : Int) != a_b.Source)) true ((a_a.Next : Int) != a_b.Next)) = false → (!(cond (cond ((a_a.AS : Int) != a_b.AS) true ((a_a.Source : Int) != a_b.Source)) true ((a_a.Next : Int) != a_b.Next))) = true] (by kernel_rfl) ⟨(fun hg => (by first | assumption | simp_all)), (fun hg => (by first | assumption | simp_all)), (fun hg => (by first | assumption | simp_all)), (fun hg => (by first | assumption | simp_all)), (by first | exact id | (intro h; rw [h]; rfl) | (intros; simp_all)), (fun hg => (by first | assumption | simp_all)), (fun hg => (by first | assumption | simp_all)), (fun hg => (by first | assumption | simp_all)), (fun hg => (by first | assumption | simp_all)), (by first | exact id | (intro h; rw [h]; rfl) | (intros; simp_all)), (fun hg => (by first | assumption | simp_all)), (fun hg => (by first | assumption | simp_all)), (fun hg => (by first | assumption | simp_all)), (fun hg => (by first | assumption | simp_all)), (fun hg => (by first | assumption | simp_all)), (fun hg => (by first | assumption | simp_all)), (by first | exact id | (intro h; rw [h]; rfl) | (intros; simp_all)), trivial⟩ (q_cast ⟨[(2, none, .val (.one (.ptr 2 0))), (3, none, .val (.one (.ptr 3 0))), (33, none, .val (.one (b1 (cond (cond (cond ((a_a.AS : Int) != a_b.AS) true ((a_a.Source : Int) != a_b.Source)) true ((a_a.Next : Int) != a_b.Next)) true (((a_a.Received.length : Int) : Int) != (a_b.Received.length : Int))))))], [(2, .box [I a_a.AS, I a_a.Source, I a_a.Next, .sl (List.map GMessage.enc a_a.Received)]), (3, .box [I a_b.AS, I a_b.Source, I a_b.Next, .sl (List.map GMessage.enc a_b.Received)])]⟩ (by simp only [Int.toNat_natCast, List.length_map, List.nil_append, List.map_append, List.map_cons, List.map_nil, List.map_take, List.map_drop, List.map_replicate, encI, encS, encU]) ?_)
  refine andThen_normal ?_
  refine aw_cond (cond (cond (cond ((a_a.AS : Int) != a_b.AS) true ((a_a.Source : Int) != a_b.Source)) true ((a_a.Next : Int) != a_b.Next)) true (((a_a.Received.length : Int) : Int) != (a_b.Received.length : Int))) (by kernel_rfl) (fun h1 => ?_) (fun h1 => ?_)
  · rw [h1, cond_true] at hs
    refine aw_seq ?_
    refine aw_reg [] [4] [] [] ⟨[(4, none, .val (.one (b1 false)))], []⟩ [] (by kernel_rfl) trivial (?_)
    refine andThen_normal ?_
    exact aw_ret (ret_thru (ends_data (ys := [.one (b1 false)]) (.inl rfl) (by kernel_rfl) (by kernel_rfl) hs))
  · rw [h1, cond_false] at hs
    refine aw_pick [2, 3] [2, 3] ⟨[(2, none, .val (.one (.ptr 2 0))), (3, none, .val (.one (.ptr 3 0)))], [(2, .box [I a_a.AS, I a_a.Source, I a_a.Next, .sl (List.map GMessage.enc a_a.Received)]), (3, .box [I a_b.AS, I a_b.Source, I a_b.Next, .sl (List.map GMessage.enc a_b.Received)])]⟩ (by kernel_rfl) ?_
    refine aw_skip ?_
    refine andThen_normal ?_
    refine aw_seq ?_
    refine aw_seq ?_
    refine aw_reg [] [2, 3, 5] [2, 3] [] ⟨[(2, none, .val (.one (.ptr 2 0))), (3, none, .val (.one (.ptr 3 0))), (5, none, .val (.one (I 0)))], [(2, .box [I a_a.AS, I a_a.Source, I a_a.Next, .sl (List.map GMessage.enc a_a.Received)]), (3, .box [I a_b.AS, I a_b.Source, I a_b.Next, .sl (List.map GMessage.enc a_b.Received)])]⟩ [] (by kernel_rfl) trivial (?_)
    refine andThen_normal ?_
    refine aw_block ?_
    refine aw_lenBox 2 3 _ (List.map GMessage.enc a_a.Received) rfl rfl (fun hl1 => ?_)
    rw [List.length_map] at hl1
    generalize hz1 : s_EqualInboxes_l1 a_b a_a.Received 0 = z1 at hs
    refine aw_loop (fun m st => ∃ (k3 : Nat), m = a_a.Received.length - k3 ∧ k3 ≤ a_a.Received.length ∧ s_EqualInboxes_l1 a_b (a_a.Received.drop k3) k3 = z1 ∧ st = ⟨[(2, none, .val (.one (.ptr 2 0))), (3, none, .val (.one (.ptr 3 0))), (5, none, .val (.one (I (k3 : Int))))], [(2, .box [I a_a.AS, I a_a.Source, I a_a.Next, .sl (List.map GMessage.enc a_a.Received)]), (3, .box [I a_b.AS, I a_b.Source, I a_b.Next, .sl (List.map GMessage.enc a_b.Received)])]⟩) (a_a.Received.length) ⟨0, rfl, Nat.zero_le _, hz1, by kernel_rfl⟩ ?_
    clear hz1
    rintro m s ⟨k3, rfl, hk1, hz1, rfl⟩
    rcases drop_cases a_a.Received k3 hk1 with ⟨hd1, rfl⟩ | ⟨x4, hd1, hx1, hlt1⟩
    · rw [hd1, s_EqualInboxes_l1] at hz1
      refine aw_seq ?_
      refine aw_seq ?_
      refine aw_reg [] [2, 3, 5, 38] [2, 3] [] ⟨[(2, none, .val (.one (.ptr 2 0))), (3, none, .val (.one (.ptr 3 0))), (5, none, .val (.one (I (a_a.Received.length : Int)))), (38, none, .val (.one (b1 (decide (((a_a.Received.length : Int) : Int) < ((List.map GMessage.enc a_a.Received).length : Int))))))], [(2, .box [I a_a.AS, I a_a.Source, I a_a.Next, .sl (List.map GMessage.enc a_a.Received)]), (3, .box [I a_b.AS, I a_b.Source, I a_b.Next, .sl (List.map GMessage.enc a_b.Received)])]⟩ [] (by kernel_rfl) trivial (q_cast ⟨[(2, none, .val (.one (.ptr 2 0))), (3, none, .val (.one (.ptr 3 0))), (5, none, .val (.one (I (a_a.Received.length : Int)))), (38, none, .val (.one (b1 (decide (((a_a.Received.length : Int) : Int) < (a_a.Received.length : Int))))))], [(2, .box [I a_a.AS, I a_a.Source, I a_a.Next, .sl (List.map GMessage.enc a_a.Received)]), (3, .box [I a_b.AS, I a_b.Source, I a_b.Next, .sl (List.map GMessage.enc a_b.Received)])]⟩ (by simp only [Int.toNat_natCast, List.length_map, List.nil_append, List.map_append, List.map_cons, List.map_nil, List.map_take, List.map_drop, List.map_replicate, encI, encS, encU]) ?_)
      refine andThen_normal ?_
      refine aw_cond (decide (((a_a.Received.length : Int) : Int) < (a_a.Received.length : Int))) (by kernel_rfl) (fun h => absurd h (by simp)) (fun _ => ?_)
      refine aw_pick [] [] ⟨[], []⟩ (by kernel_rfl) ?_
      refine aw_exit (exit_thru (exit_thru (exit_here 0 (?_))))
      rw [← hz1, Sum.elim_inr] at hs
      refine andThen_normal ?_
      refine aw_seq ?_
      refine aw_reg [] [4] [] [] ⟨[(4, none, .val (.one (b1 true)))], []⟩ [] (by kernel_rfl) trivial (?_)
      refine andThen_normal ?_
      exact aw_ret (ends_data (ys := [.one (b1 true)]) (.inl rfl) (by kernel_rfl) (by kernel_rfl) hs)
    · rw [hd1, s_EqualInboxes_l1] at hz1
      refine aw_seq ?_
      refine aw_seq ?_
      refine aw_reg [] [2, 3, 5, 38] [2, 3] [] ⟨[(2, none, .val (.one (.ptr 2 0))), (3, none, .val (.one (.ptr 3 0))), (5, none, .val (.one (I (k3 : Int)))), (38, none, .val (.one (b1 (decide (((k3 : Int) : Int) < ((List.map GMessage.enc a_a.Received).length : Int))))))], [(2, .box [I a_a.AS, I a_a.Source, I a_a.Next, .sl (List.map GMessage.enc a_a.Received)]), (3, .box [I a_b.AS, I a_b.Source, I a_b.Next, .sl (List.map GMessage.enc a_b.Received)])]⟩ [] (by kernel_rfl) trivial (q_cast ⟨[(2, none, .val (.one (.ptr 2 0))), (3, none, .val (.one (.ptr 3 0))), (5, none, .val (.one (I (k3 : Int)))), (38, none, .val (.one (b1 (decide (((k3 : Int) : Int) < (a_a.Received.length : Int))))))], [(2, .box [I a_a.AS, I a_a.Source, I a_a.Next, .sl (List.map GMessage.enc a_a.Received)]), (3, .box [I a_b.AS, I a_b.Source, I a_b.Next, .sl (List.map GMessage.enc a_b.Received)])]⟩ (by simp only [Int.toNat_natCast, List.length_map, List.nil_append, List.map_append, List.map_cons, List.map_nil, List.map_take, List.map_drop, List.map_replicate, encI, encS, encU]) ?_)
      refine andThen_normal ?_
      refine aw_cond (decide (((k3 : Int) : Int) < (a_a.Received.length : Int))) (by kernel_rfl) (fun _ => ?_) (fun h => absurd h (by simp; omega))
      refine aw_pick [2, 3, 5] [2, 3] ⟨[(2, none, .val (.one (.ptr 2 0))), (3, none, .val (.one (.ptr 3 0))), (5, none, .val (.one (I (k3 : Int))))], [(2, .box [I a_a.AS, I a_a.Source, I a_a.Next, .sl (List.map GMessage.enc a_a.Received)]), (3, .box [I a_b.AS, I a_b.Source, I a_b.Next, .sl (List.map GMessage.enc a_b.Received)])]⟩ (by kernel_rfl) ?_
      refine aw_skip ?_
      refine andThen_normal ?_
      refine aw_seq ?_
      refine aw_block ?_
      refine aw_seq ?_
      refine aw_drw [(44, .elem (GMessage.enc x4)), (50, .elem (GMessage.enc (a_b.Received.getD k3 GMessage.zero))), (53, .call [.one (.sl (List.map encU x4.Data)), .one (.sl (List.map encU ((a_b.Received.getD k3 GMessage.zero).Data)))] [.one (b1 (s_EqualBytes x4.Data ((a_b.Received.getD k3 GMessage.zero).Data)))] (none))] [0, 1, 2, 3, 4, 5, 6, 7, 8, 9, 10, 11, 12, 13] [2, 3, 5, 54] [2, 3] [] ⟨[(2, none, .val (.one (.ptr 2 0))), (3, none, .val (.one (.ptr 3 0))), (5, none, .val (.one (I (k3 : Int)))), (54, none, .val (.one (b1 (!(s_EqualBytes x4.Data ((a_b.Received.getD k3 GMessage.zero).Data))))))], [(2, .box [I a_a.AS, I a_a.Source, I a_a.Next, .sl (List.map GMessage.enc a_a.Received)]), (3, .box [I a_b.AS, I a_b.Source, I a_b.Next, .sl (List.map GMessage.enc a_b.Received)])]⟩ [(0 : Int) ≤ (k3 : Int), (List.map GMessage.enc a_a.Received)[((k3 : Int) : Int).toNat]? = some (GMessage.enc x4), (0 : Int) ≤ (k3 : Int), (List.map GMessage.enc a_b.Received)[((k3 : Int) : Int).toNat]? = some (GMessage.enc (a_b.Received.getD k3 GMessage.zero)), ([.one (.sl (List.map encU x4.Data)), .one (.sl (List.map encU ((a_b.Received.getD k3 GMessage.zero).Data)))] : List AV) = [.one (.sl (List.map encU x4.Data)), .one (.sl (List.map encU ((a_b.Received.getD k3 GMessage.zero).Data)))], MeetsAt Try.prog 64 [.one (.sl (List.map encU x4.Data)), .one (.sl (List.map encU ((a_b.Received.getD k3 GMessage.zero).Data)))] [.one (b1 (s_EqualBytes x4.Data ((a_b.Received.getD k3 GMessage.zero).Data)))] (none)] (by kernel_rfl) (by kernel_rfl) (Nat.le_of_ble_eq_true rfl) (by kernel_rfl) ⟨(by first | omega | (simp only [List.length_map, List.length_append, List.length_cons, List.length_nil, List.length_replicate, List.length_set, decide_eq_true_eq, Bool.and_eq_true, Bool.not_eq_true', decide_eq_false_iff_not, Bool.cond_false_right, Bool.not_eq_false', Bool.cond_true_left, Bool.or_eq_false_iff, Bool.or_eq_true, bne_eq_false_iff_eq, bne_iff_ne, beq_iff_eq, beq_eq_false_iff_ne, ne_eq, Int.not_lt, Int.not_le, ge_iff_le, gt_iff_lt, maxLen] at *; omega)), (el_map hx1), (by first | omega | (simp only [List.length_map, List.length_append, List.length_cons, List.length_nil, List.length_replicate, List.length_set, decide_eq_true_eq, Bool.and_eq_true, Bool.not_eq_true', decide_eq_false_iff_not, Bool.cond_false_right, Bool.not_eq_false', Bool.cond_true_left, Bool.or_eq_false_iff, Bool.or_eq_true, bne_eq_false_iff_eq, bne_iff_ne, beq_iff_eq, beq_eq_false_iff_ne, ne_eq, Int.not_lt, Int.not_le, ge_iff_le, gt_iff_lt, maxLen] at *; omega)), (el_getD (n := (k3 : Int)) (by first | omega | (simp only [List.length_map, List.length_append, List.length_cons, List.length_nil, List.length_replicate, List.length_set, decide_eq_true_eq, Bool.and_eq_true, Bool.not_eq_true', decide_eq_false_iff_not, Bool.cond_false_right, Bool.not_eq_false', Bool.cond_true_left, Bool.or_eq_false_iff, Bool.or_eq_true, bne_eq_false_iff_eq, bne_iff_ne, beq_iff_eq, beq_eq_false_iff_ne, ne_eq, Int.not_lt, Int.not_le, ge_iff_le, gt_iff_lt, maxLen] at *; omega)) (by first | omega | (simp only [List.length_map, List.length_append, List.length_cons, List.length_nil, List.length_replicate, List.length_set, decide_eq_true_eq, Bool.and_eq_true, Bool.not_eq_true', decide_eq_false_iff_not, Bool.cond_false_right, Bool.not_eq_false', Bool.cond_true_left, Bool.or_eq_false_iff, Bool.or_eq_true, bne_eq_false_iff_eq, bne_iff_ne, beq_iff_eq, beq_eq_false_iff_ne, ne_eq, Int.not_lt, Int.not_le, ge_iff_le, gt_iff_lt, maxLen] at *; omega))), rfl, (s_EqualBytes_ok x4.Data ((a_b.Received.getD k3 GMessage.zero).Data)), trivial⟩ (?_)
      refine andThen_normal ?_
      refine aw_cond (!(s_EqualBytes x4.Data ((a_b.Received.getD k3 GMessage.zero).Data))) (by kernel_rfl) (fun h5 => ?_) (fun h5 => ?_)
      · rw [h5, cond_true] at hz1
        refine aw_seq ?_
        refine aw_reg [] [4] [] [] ⟨[(4, none, .val (.one (b1 false)))], []⟩ [] (by kernel_rfl) trivial (?_)
        refine andThen_normal ?_
        rw [← hz1, Sum.elim_inl] at hs
        exact aw_ret (ret_blk (ret_thru (ret_thru (ret_blk (ret_thru (ends_data (ys := [.one (b1 false)]) (.inl rfl) (by kernel_rfl) (by kernel_rfl) hs))))))
      · rw [h5, cond_false] at hz1
        refine aw_pick [2, 3, 5] [2, 3] ⟨[(2, none, .val (.one (.ptr 2 0))), (3, none, .val (.one (.ptr 3 0))), (5, none, .val (.one (I (k3 : Int))))], [(2, .box [I a_a.AS, I a_a.Source, I a_a.Next, .sl (List.map GMessage.enc a_a.Received)]), (3, .box [I a_b.AS, I a_b.Source, I a_b.Next, .sl (List.map GMessage.enc a_b.Received)])]⟩ (by kernel_rfl) ?_
        refine aw_skip ?_
        refine blk_normal ?_
        refine andThen_normal ?_
        refine aw_reg [] [2, 3, 5] [2, 3] [] ⟨[(2, none, .val (.one (.ptr 2 0))), (3, none, .val (.one (.ptr 3 0))), (5, none, .val (.one (I (wr ((k3 : Int) + 1)))))], [(2, .box [I a_a.AS, I a_a.Source, I a_a.Next, .sl (List.map GMessage.enc a_a.Received)]), (3, .box [I a_b.AS, I a_b.Source, I a_b.Next, .sl (List.map GMessage.enc a_b.Received)])]⟩ [] (by kernel_rfl) trivial (?_)
        exact ⟨a_a.Received.length - (k3 + 1), by omega, k3 + 1, rfl, by omega, hz1, by rw [show wr ((k3 : Int) + 1) = ((k3 + 1 : Nat) : Int) from wrap_succ (by omega)]⟩

theorem i_equalMessages_ok (a_a : List GMessage) (a_b : List GMessage) : MeetsAt Try.prog 65 [.one (.sl (List.map GMessage.enc a_a)), .one (.sl (List.map GMessage.enc a_b))] [.one (b1 (i_equalMessages a_a a_b))] none := by
  generalize hs : ([.one (b1 (i_equalMessages a_a a_b))] : List AV) = outs
  unfold i_equalMessages at hs
  refine meets_data Try.func65 rfl (by kernel_rfl) (Nat.le_of_ble_eq_true rfl) ?_
  rintro ⟨P, m, w0, B, src, hsrc⟩ rfl rfl
  refine aw_seq ?_
  refine aw_reg [] [0, 1] [] [] ⟨[(0, none, .val (.one (.sl (List.map GMessage.enc a_a)))), (1, none, .val (.one (.sl (List.map GMessage.enc a_b))))], []⟩ [] (by kernel_rfl) trivial (?_)
  refine andThen_normal ?_
  refine aw_seq ?_
  refine aw_seq ?_
  refine aw_reg [] [0, 1, 10] [] [] ⟨[(0, none, .val (.one (.sl (List.map GMessage.enc a_a)))), (1, none, .val (.one (.sl (List.map GMessage.enc a_b)))), (10, none, .val (.one (b1 ((((List.map GMessage.enc a_a).length : Int) : Int) != ((List.map GMessage.enc a_b).length : Int)))))], []⟩ [] (by kernel_rfl) trivial (q_cast ⟨[(0, none, .val (.one (.sl (List.map GMessage.enc a_a)))), (1, none, .val (.one (.sl (List.map GMessage.enc a_b)))), (10, none, .val (.one (b1 (((a_a.length : Int) : Int) != (a_b.length : Int)))))], []⟩ (by simp only [Int.toNat_natCast, List.length_map, List.nil_append, List.map_append, List.map_cons, List.map_nil, List.map_take, List.map_drop, List.map_replicate, encI, encS, encU]) ?_)
  refine andThen_normal ?_
  refine aw_cond (((a_a.length : Int) : Int) != (a_b.length : Int)) (by kernel_rfl) (fun h1 => ?_) (fun h1 => ?_)
  · rw [h1, cond_true] at hs
    refine aw_seq ?_
    refine aw_reg [] [4] [] [] ⟨[(4, none, .val (.one (b1 false)))], []⟩ [] (by kernel_rfl) trivial (?_)
    refine andThen_normal ?_
    exact aw_ret (ret_thru (ends_data (ys := [.one (b1 false)]) (.inl rfl) (by kernel_rfl) (by kernel_rfl) hs))
  · rw [h1, cond_false] at hs
    refine aw_pick [0, 1] [] ⟨[(0, none, .val (.one (.sl (List.map GMessage.enc a_a)))), (1, none, .val (.one (.sl (List.map GMessage.enc a_b))))], []⟩ (by kernel_rfl) ?_
    refine aw_skip ?_
    refine andThen_normal ?_
    refine aw_seq ?_
    refine aw_seq ?_
    refine aw_reg [] [0, 1, 12, 13] [] [] ⟨[(0, none, .val (.one (.sl (List.map GMessage.enc a_a)))), (1, none, .val (.one (.sl (List.map GMessage.enc a_b)))), (12, none, .val (.one (I ((List.map GMessage.enc a_a).length : Int)))), (13, none, .val (.one (I 0)))], []⟩ [] (by kernel_rfl) trivial (q_cast ⟨[(0, none, .val (.one (.sl (List.map GMessage.enc a_a)))), (1, none, .val (.one (.sl (List.map GMessage.enc a_b)))), (12, none, .val (.one (I (a_a.length : Int)))), (13, none, .val (.one (I 0)))], []⟩ (by simp only [Int.toNat_natCast, List.length_map, List.nil_append, List.map_append, List.map_cons, List.map_nil, List.map_take, List.map_drop, List.map_replicate, encI, encS, encU]) ?_)
    refine andThen_normal ?_
    refine aw_block ?_
    refine aw_len 0 (List.map GMessage.enc a_a) (by kernel_rfl) (fun hl1 => ?_)
    rw [List.length_map] at hl1
    generalize hz1 : i_equalMessages_l1 a_b a_a 0 = z1 at hs
    refine aw_loop (fun m st => ∃ (k3 : Nat), m = a_a.length - k3 ∧ k3 ≤ a_a.length ∧ i_equalMessages_l1 a_b (a_a.drop k3) k3 = z1 ∧ st = ⟨[(0, none, .val (.one (.sl (List.map GMessage.enc a_a)))), (1, none, .val (.one (.sl (List.map GMessage.enc a_b)))), (12, none, .val (.one (I (a_a.length : Int)))), (13, none, .val (.one (I (k3 : Int))))], []⟩) (a_a.length) ⟨0, rfl, Nat.zero_le _, hz1, by kernel_rfl⟩ ?_
    clear hz1
    rintro m s ⟨k3, rfl, hk1, hz1, rfl⟩
    rcases drop_cases a_a k3 hk1 with ⟨hd1, rfl⟩ | ⟨x4, hd1, hx1, hlt1⟩
    · rw [hd1, i_equalMessages_l1] at hz1
      refine aw_seq ?_
      refine aw_reg [] [0, 1, 12, 13, 14] [] [] ⟨[(0, none, .val (.one (.sl (List.map GMessage.enc a_a)))), (1, none, .val (.one (.sl (List.map GMessage.enc a_b)))), (12, none, .val (.one (I (a_a.length : Int)))), (13, none, .val (.one (I (a_a.length : Int)))), (14, none, .val (.one (b1 (decide (((a_a.length : Int) : Int) < (a_a.length : Int))))))], []⟩ [] (by kernel_rfl) trivial (?_)
      refine andThen_normal ?_
      refine aw_seq ?_
      refine aw_cond (decide (((a_a.length : Int) : Int) < (a_a.length : Int))) (by kernel_rfl) (fun h => absurd h (by simp)) (fun _ => ?_)
      refine aw_pick [] [] ⟨[], []⟩ (by kernel_rfl) ?_
      refine aw_exit (exit_thru (exit_thru (exit_here 0 (?_))))
      rw [← hz1, Sum.elim_inr] at hs
      refine andThen_normal ?_
      refine aw_seq ?_
      refine aw_reg [] [4] [] [] ⟨[(4, none, .val (.one (b1 true)))], []⟩ [] (by kernel_rfl) trivial (?_)
      refine andThen_normal ?_
      exact aw_ret (ends_data (ys := [.one (b1 true)]) (.inl rfl) (by kernel_rfl) (by kernel_rfl) hs)
    · rw [hd1, i_equalMessages_l1] at hz1
      refine aw_seq ?_
      refine aw_reg [] [0, 1, 12, 13, 14] [] [] ⟨[(0, none, .val (.one (.sl (List.map GMessage.enc a_a)))), (1, none, .val (.one (.sl (List.map GMessage.enc a_b)))), (12, none, .val (.one (I (a_a.length : Int)))), (13, none, .val (.one (I (k3 : Int)))), (14, none, .val (.one (b1 (decide (((k3 : Int) : Int) < (a_a.length : Int))))))], []⟩ [] (by kernel_rfl) trivial (?_)
      refine andThen_normal ?_
      refine aw_seq ?_
      refine aw_cond (decide (((k3 : Int) : Int) < (a_a.length : Int))) (by kernel_rfl) (fun _ => ?_) (fun h => absurd h (by simp; omega))
      refine aw_pick [0, 1, 12, 13] [] ⟨[(0, none, .val (.one (.sl (List.map GMessage.enc a_a)))), (1, none, .val (.one (.sl (List.map GMessage.enc a_b)))), (12, none, .val (.one (I (a_a.length : Int)))), (13, none, .val (.one (I (k3 : Int))))], []⟩ (by kernel_rfl) ?_
      refine aw_skip ?_
      refine andThen_normal ?_
      refine aw_seq ?_
      refine aw_block ?_
      refine aw_seq ?_
      refine aw_reg [] [0, 1, 5, 12, 13] [] [] ⟨[(0, none, .val (.one (.sl (List.map GMessage.enc a_a)))), (1, none, .val (.one (.sl (List.map GMessage.enc a_b)))), (5, none, .val (.one (I (k3 : Int)))), (12, none, .val (.one (I (a_a.length : Int)))), (13, none, .val (.one (I (k3 : Int))))], []⟩ [] (by kernel_rfl) trivial (?_)
      refine andThen_normal ?_
      refine aw_seq ?_
      refine aw_drw [(18, .elem (GMessage.enc x4)), (23, .elem (GMessage.enc (a_b.getD k3 GMessage.zero))), (26, .call [.one (.sl (List.map encU x4.Data)), .one (.sl (List.map encU ((a_b.getD k3 GMessage.zero).Data)))] [.one (b1 (i_EqualBytes x4.Data ((a_b.getD k3 GMessage.zero).Data)))] (none))] [0, 1, 2, 3, 4, 5, 6, 7, 8, 9, 10, 11] [0, 1, 12, 13, 27] [] [] ⟨[(0, none, .val (.one (.sl (List.map GMessage.enc a_a)))), (1, none, .val (.one (.sl (List.map GMessage.enc a_b)))), (12, none, .val (.one (I (a_a.length : Int)))), (13, none, .val (.one (I (k3 : Int)))), (27, none, .val (.one (b1 (!(i_EqualBytes x4.Data ((a_b.getD k3 GMessage.zero).Data))))))], []⟩ [(0 : Int) ≤ (k3 : Int), (List.map GMessage.enc a_a)[((k3 : Int) : Int).toNat]? = some (GMessage.enc x4), (0 : Int) ≤ (k3 : Int), (List.map GMessage.enc a_b)[((k3 : Int) : Int).toNat]? = some (GMessage.enc (a_b.getD k3 GMessage.zero)), ([.one (.sl (List.map encU x4.Data)), .one (.sl (List.map encU ((a_b.getD k3 GMessage.zero).Data)))] : List AV) = [.one (.sl (List.map encU x4.Data)), .one (.sl (List.map encU ((a_b.getD k3 GMessage.zero).Data)))], MeetsAt Try.prog 104 [.one (.sl (List.map encU x4.Data)), .one (.sl (List.map encU ((a_b.getD k3 GMessage.zero).Data)))] [.one (b1 (i_EqualBytes x4.Data ((a_b.getD k3 GMessage.zero).Data)))] (none)] (by kernel_rfl) (by kernel_rfl) (Nat.le_of_ble_eq_true rfl) (by kernel_rfl) ⟨(by first | omega | (simp only [List.length_map, List.length_append, List.length_cons, List.length_nil, List.length_replicate, List.length_set, decide_eq_true_eq, Bool.and_eq_true, Bool.not_eq_true', decide_eq_false_iff_not, Bool.cond_false_right, Bool.not_eq_false', Bool.cond_true_left, Bool.or_eq_false_iff, Bool.or_eq_true, bne_eq_false_iff_eq, bne_iff_ne, beq_iff_eq, beq_eq_false_iff_ne, ne_eq, Int.not_lt, Int.not_le, ge_iff_le, gt_iff_lt, maxLen] at *; omega)), (el_map hx1), (by first | omega | (simp only [List.length_map, List.length_append, List.length_cons, List.length_nil, List.length_replicate, List.length_set, decide_eq_true_eq, Bool.and_eq_true, Bool.not_eq_true', decide_eq_false_iff_not, Bool.cond_false_right, Bool.not_eq_false', Bool.cond_true_left, Bool.or_eq_false_iff, Bool.or_eq_true, bne_eq_false_iff_eq, bne_iff_ne, beq_iff_eq, beq_eq_false_iff_ne, ne_eq, Int.not_lt, Int.not_le, ge_iff_le, gt_iff_lt, maxLen] at *; omega)), (el_getD (n := (k3 : Int)) (by first | omega | (simp only [List.length_map, List.length_append, List.length_cons, List.length_nil, List.length_replicate, List.length_set, decide_eq_true_eq, Bool.and_eq_true, Bool.not_eq_true', decide_eq_false_iff_not, Bool.cond_false_right, Bool.not_eq_false', Bool.cond_true_left, Bool.or_eq_false_iff, Bool.or_eq_true, bne_eq_false_iff_eq, bne_iff_ne, beq_iff_eq, beq_eq_false_iff_ne, ne_eq, Int.not_lt, Int.not_le, ge_iff_le, gt_iff_lt, maxLen] at *; omega)) (by first | omega | (simp only [List.length_map, List.length_append, List.length_cons, List.length_nil, List.length_replicate, List.length_set, decide_eq_true_eq, Bool.and_eq_true, Bool.not_eq_true', decide_eq_false_iff_not, Bool.cond_false_right, Bool.not_eq_false', Bool.cond_true_left, Bool.or_eq_false_iff, Bool.or_eq_true, bne_eq_false_iff_eq, bne_iff_ne, beq_iff_eq, beq_eq_false_iff_ne, ne_eq, Int.not_lt, Int.not_le, ge_iff_le, gt_iff_lt, maxLen] at *; omega))), rfl, (i_EqualBytes_ok x4.Data ((a_b.getD k3 GMessage.zero).Data)), trivial⟩ (?_)
      refine andThen_normal ?_
      refine aw_cond (!(i_EqualBytes x4.Data ((a_b.getD k3 GMessage.zero).Data))) (by kernel_rfl) (fun h5 => ?_) (fun h5 => ?_)
      · rw [h5, cond_true] at hz1
        refine aw_seq ?_
        refine aw_reg [] [4] [] [] ⟨[(4, none, .val (.one (b1 false)))], []⟩ [] (by kernel_rfl) trivial (?_)
        refine andThen_normal ?_
        rw [← hz1, Sum.elim_inl] at hs
        exact aw_ret (ret_blk (ret_thru (ret_thru (ret_blk (ret_thru (ends_data (ys := [.one (b1 false)]) (.inl rfl) (by kernel_rfl) (by kernel_rfl) hs))))))
      · rw [h5, cond_false] at hz1
        refine aw_pick [0, 1, 12, 13] [] ⟨[(0, none, .val (.one (.sl (List.map GMessage.enc a_a)))), (1, none, .val (.one (.sl (List.map GMessage.enc a_b)))), (12, none, .val (.one (I (a_a.length : Int)))), (13, none, .val (.one (I (k3 : Int))))], []⟩ (by kernel_rfl) ?_
        refine aw_skip ?_
        refine blk_normal ?_
        refine andThen_normal ?_
        refine aw_reg [] [0, 1, 12, 13] [] [] ⟨[(0, none, .val (.one (.sl (List.map GMessage.enc a_a)))), (1, none, .val (.one (.sl (List.map GMessage.enc a_b)))), (12, none, .val (.one (I (a_a.length : Int)))), (13, none, .val (.one (I (wr ((k3 : Int) + 1)))))], []⟩ [] (by kernel_rfl) trivial (?_)
        exact ⟨a_a.length - (k3 + 1), by omega, k3 + 1, rfl, by omega, hz1, by rw [show wr ((k3 : Int) + 1) = ((k3 + 1 : Nat) : Int) from wrap_succ (by omega)]⟩

theorem i_EqualInboxes_ok (a_a : GInbox) (a_b : GInbox) : MeetsAt Try.prog 27 [.agg (GInbox.enc a_a), .agg (GInbox.enc a_b)] [.one (b1 (i_EqualInboxes a_a a_b))] none := by
  generalize hs : ([.one (b1 (i_EqualInboxes a_a a_b))] : List AV) = outs
  unfold i_EqualInboxes at hs
  refine meets_data Try.func27 rfl (by kernel_rfl) (Nat.le_of_ble_eq_true rfl) ?_
  rintro ⟨P, m, w0, B, src, hsrc⟩ rfl rfl
  refine aw_seq ?_
  refine aw_reg [] [2, 3] [2, 3] [] ⟨[(2, none, .val (.one (.ptr 2 0))), (3, none, .val (.one (.ptr 3 0)))], [(2, .box [I a_a.AS, I a_a.Source, I a_a.Next, .sl (List.map GMessage.enc a_a.Received)]), (3, .box [I a_b.AS, I a_b.Source, I a_b.Next, .sl (List.map GMessage.enc a_b.Received)])]⟩ [] (by kernel_rfl) trivial (?_)
  refine andThen_normal ?_
  refine aw_seq ?_
  refine aw_reg [(29, .call [.one (.sl (List.map GMessage.enc a_a.Received)), .one (.sl (List.map GMessage.enc a_b.Received))] [.one (b1 (i_equalMessages a_a.Received a_b.Received))] (none))] [4] [] [] ⟨[(4, none, .val (.one (b1 (cond (cond (cond ((a_a.AS : Int) == a_b.AS) ((a_a.Source : Int) == a_b.Source) false) ((a_a.Next : Int) == a_b.Next) false) (i_equalMessages a_a.Received a_b.Received) false))))], []⟩ [((a_a.AS : Int) == a_b.AS) = true → ((a_a.AS : Int) == a_b.AS) = true, ((a_a.AS : Int) == a_b.AS) = true → ((a_a.AS : Int) == a_b.AS) = true, ((a_a.AS : Int) == a_b.AS) = true → ((a_a.AS : Int) == a_b.AS) = true, ((a_a.AS : Int) == a_b.AS) = true → ((a_a.AS : Int) == a_b.AS) = true, ((a_a.AS : Int) == a_b.AS) = true → ((a_a.AS : Int) == a_b.AS) = true, (cond ((a_a.AS : Int) == a_b.AS) ((a_a.Source : Int) == a_b.Source) false) = true → (cond ((a_a.AS : Int) == a_b.AS) ((a_a.Source : Int) == a_b.Source) false) = true, (cond ((a_a.AS : Int) == a_b.AS) ((a_a.Source : Int) == a_b.Source) false) = true → (cond ((a_a.AS : Int) == a_b.AS) ((a_a.Source : Int) == a_b.Source) false) = true, (cond ((a_a.AS : Int) == a_b.AS) ((a_a.Source : Int) == a_b.Source) false) = true → (cond ((a_a.AS : Int) == a_b.AS) ((a_a.Source : Int) == a_b.Source) false) = true, (cond ((a_a.AS : Int) == a_b.AS) ((a_a.Source : Int) == a_b.Source) false) = true → (cond ((a_a.AS : Int) == a_b.AS) ((a_a.Source : Int) == a_b.Source) false) = true, (cond ((a_a.AS : Int) == a_b.AS) ((a_a.Source : Int) == a_b.Source) false) = true → (cond ((a_a.AS : Int) == a_b.AS) ((a_a.Source : Int) == a_b.Source) false) = true, (cond (cond ((a_a.AS : Int) == a_b.AS) ((a_a.Source : Int) == a_b.Source) false) ((a_a.Next : Int) == a_b.Next) false) = true → (cond (cond ((a_a.AS : Int) == a_b.AS) ((a_a.Source : Int) == a_b.Source) false) ((a_a.Next : Int) == a_b.Next) false) = true, (cond (cond ((a_a.AS : Int) == a_b.AS) ((a_a.Source : Int) == a_b.Source) false) ((a_a.Next : Int) == a_b.Next) false) = true → (cond (cond ((a_a.AS : Int) == a_b.AS) ((a_a.Source : Int) == a_b.Source) false) ((a_a.Next : Int) == a_b.Next) false) = true, (cond (cond ((a_a.AS : Int) == a_b.AS) ((a_a.Source : Int) == a_b.Source) false) ((a_a.Next : Int) == a_b.Next) false) = true → ([.one (.sl (List.map GMessage.enc a_a.Received)), .one (.sl (List.map GMessage.enc a_b.Received))] : List AV) = [.one (.sl (List.map GMessage.enc a_a.Received)), .one (.sl (List.map GMessage.enc a_b.Received))], (cond (cond ((a_a.AS : Int) == a_b.AS) ((a_a.Source : Int) == a_b.Source) false) ((a_a.Next : Int) == a_b.Next) false) = true → MeetsAt Try.prog 65 [.one (.sl (List.map GMessage.enc a_a.Received)), .one (.sl (List.map GMessage.enc a_b.Received))] [.one (b1 (i_equalMessages a_a.Received a_b.Received))] (none), (cond (cond ((a_a.AS : Int) == a_b.AS) ((a_a.Source : Int) == a_b.Source) false) ((a_a.Next : Int) == a_b.Next) false) = true → (cond (cond ((a_a.AS : Int) == a_b.AS) ((a_a.Source : Int) == a_b.Source) false) ((a_a.Next : Int) == a_b.Next) false) = true, (cond (cond ((a_a.AS : Int) == a_b.AS) ((a_a.Source : Int) == a_b.Source) false) ((a_a.Next : Int) == a_b.Next) false) = true → (cond (cond ((a_a.AS : Int) == a_b.AS) ((a_a.Source : Int) == a_b.Source) false) ((a_a.Next : Int) == a_b.Next) false) = true, (cond (cond ((a_a.AS : Int) == a_b.AS) ((a_a.Source : Int) == a_b.Source) false) ((a_a.Next : Int) == a_b.Next) false) = true → (cond (cond ((a_a.AS : Int) == a_b.AS) ((a_a.Source : Int) == a_b.Source) false) ((a_a.Next : Int) == a_b.Next) false) = true] (by kernel_rfl) ⟨(fun hg => (by first | assumption | simp_all)), (fun hg => (by first | assumption | simp_all)), (fun hg => (by first | assumption | simp_all)), (fun hg => (by first | assumption | simp_all)), (by first | exact id | (intro h; rw [h]; rfl) | (intros; simp_all)), (fun hg => (by first | assumption | simp_all)), (fun hg => (by first | assumption | simp_all)), (fun hg => (by first | assumption | simp_all)), (fun hg => (by first | assumption | simp_all)), (by first | exact id | (intro h; rw [h]; rfl) | (intros; simp_all)), (fun hg => (by first | assumption | simp_all)), (fun hg => (by first | assumption | simp_all)), (fun _ => rfl), (fun hg => (i_equalMessages_ok a_a.Received a_b.Received)), (fun hg => (by first | assumption | simp_all)), (fun hg => (by first | assumption | simp_all)), (by first | exact id | (intro h; rw [h]; rfl) | (intros; simp_all)), trivial⟩ (?_)
  refine andThen_normal ?_
  exact aw_ret (ends_data (ys := [.one (b1 (cond (cond (cond ((a_a.AS : Int) == a_b.AS) ((a_a.Source : Int) == a_b.Source) false) ((a_a.Next : Int) == a_b.Next) false) (i_equalMessages a_a.Received a_b.Received) false))]) (.inl rfl) (by kernel_rfl) (by kernel_rfl) hs)

theorem l_FnExactEqualInboxes_ok (a_aA : GInbox) (a_aB : GInbox) (hw0 : WfL a_aA.enc) (hw1 : WfL a_aB.enc) : MeetsAt Try.prog 6 [.agg (GInbox.enc a_aA), .agg (GInbox.enc a_aB)] [.one (b1 (l_FnExactEqualInboxes a_aA a_aB))] none := by
  generalize hs : ([.one (b1 (l_FnExactEqualInboxes a_aA a_aB))] : List AV) = outs
  unfold l_FnExactEqualInboxes at hs
  refine meets_data Try.func6 rfl (by kernel_rfl) (Nat.le_of_ble_eq_true rfl) ?_
  rintro ⟨P, m, w0, B, src, hsrc⟩ rfl rfl
  have hf0 := (sz_Inbox a_aA 1048576 hw0 (by decide) (by decide)).sm
  have hf1 := sz_Inbox2 a_aA a_aB hw0 hw1
  refine aw_seq ?_
  refine aw_reg [] [2, 3] [2, 3] [] ⟨[(2, none, .val (.one (.ptr 2 0))), (3, none, .val (.one (.ptr 3 0)))], [(2, .box [I a_aA.AS, I a_aA.Source, I a_aA.Next, .sl (List.map GMessage.enc a_aA.Received)]), (3, .box [I a_aB.AS, I a_aB.Source, I a_aB.Next, .sl (List.map GMessage.enc a_aB.Received)])]⟩ [] (by kernel_rfl) trivial (?_)
  refine andThen_normal ?_
  refine aw_seq ?_
  refine aw_reg [] [2, 3, 5] [2, 3] [] ⟨[(2, none, .val (.one (.ptr 2 0))), (3, none, .val (.one (.ptr 3 0))), (5, none, .val (.one (I 1048576)))], [(2, .box [I a_aA.AS, I a_aA.Source, I a_aA.Next, .sl (List.map GMessage.enc a_aA.Received)]), (3, .box [I a_aB.AS, I a_aB.Source, I a_aB.Next, .sl (List.map GMessage.enc a_aB.Received)])]⟩ [] (by kernel_rfl) trivial (?_)
  refine andThen_normal ?_
  refine aw_seq ?_
  refine aw_reg [(12, .call [.agg (GInbox.enc a_aA), .one (I 1048576)] [.one (I (l_szInbox a_aA 1048576))] (none))] [2, 3, 5] [2, 3] [] ⟨[(2, none, .val (.one (.ptr 2 0))), (3, none, .val (.one (.ptr 3 0))), (5, none, .val (.one (I (l_szInbox a_aA 1048576))))], [(2, .box [I a_aA.AS, I a_aA.Source, I a_aA.Next, .sl (List.map GMessage.enc a_aA.Received)]), (3, .box [I a_aB.AS, I a_aB.Source, I a_aB.Next, .sl (List.map GMessage.enc a_aB.Received)])]⟩ [([.agg [I a_aA.AS, I a_aA.Source, I a_aA.Next, .sl (List.map GMessage.enc a_aA.Received)], .one (I 1048576)] : List AV) = [.agg (GInbox.enc a_aA), .one (I 1048576)], MeetsAt Try.prog 22 [.agg (GInbox.enc a_aA), .one (I 1048576)] [.one (I (l_szInbox a_aA 1048576))] (none)] (by kernel_rfl) ⟨(by first | rfl | simp only [Int.toNat_natCast, List.length_map, List.nil_append, List.map_append, List.map_cons, List.map_nil, List.map_take, List.map_drop, List.map_replicate]), (l_szInbox_ok a_aA 1048576), trivial⟩ (?_)
  refine andThen_normal ?_
  refine aw_seq ?_
  refine aw_seq ?_
  refine aw_reg [] [2, 3, 5, 14] [2, 3] [] ⟨[(2, none, .val (.one (.ptr 2 0))), (3, none, .val (.one (.ptr 3 0))), (5, none, .val (.one (I (l_szInbox a_aA 1048576)))), (14, none, .val (.one (b1 (decide (((l_szInbox a_aA 1048576) : Int) < 0)))))], [(2, .box [I a_aA.AS, I a_aA.Source, I a_aA.Next, .sl (List.map GMessage.enc a_aA.Received)]), (3, .box [I a_aB.AS, I a_aB.Source, I a_aB.Next, .sl (List.map GMessage.enc a_aB.Received)])]⟩ [] (by kernel_rfl) trivial (?_)
  refine andThen_normal ?_
  refine aw_cond (decide (((l_szInbox a_aA 1048576) : Int) < 0)) (by kernel_rfl) (fun h1 => ?_) (fun h1 => ?_)
  · rw [h1, cond_true] at hs
    refine aw_seq ?_
    refine aw_reg [] [4] [] [] ⟨[(4, none, .val (.one (b1 true)))], []⟩ [] (by kernel_rfl) trivial (?_)
    refine andThen_normal ?_
    exact aw_ret (ret_thru (ends_data (ys := [.one (b1 true)]) (.inl rfl) (by kernel_rfl) (by kernel_rfl) hs))
  · rw [h1, cond_false] at hs
    refine aw_pick [2, 3, 5] [2, 3] ⟨[(2, none, .val (.one (.ptr 2 0))), (3, none, .val (.one (.ptr 3 0))), (5, none, .val (.one (I (l_szInbox a_aA 1048576))))], [(2, .box [I a_aA.AS, I a_aA.Source, I a_aA.Next, .sl (List.map GMessage.enc a_aA.Received)]), (3, .box [I a_aB.AS, I a_aB.Source, I a_aB.Next, .sl (List.map GMessage.enc a_aB.Received)])]⟩ (by kernel_rfl) ?_
    refine aw_skip ?_
    refine andThen_normal ?_
    refine aw_seq ?_
    refine aw_reg [(17, .call [.agg (GInbox.enc a_aB), .one (I (l_szInbox a_aA 1048576))] [.one (I (l_szInbox a_aB (l_szInbox a_aA 1048576)))] (none))] [2, 3, 5] [2, 3] [] ⟨[(2, none, .val (.one (.ptr 2 0))), (3, none, .val (.one (.ptr 3 0))), (5, none, .val (.one (I (l_szInbox a_aB (l_szInbox a_aA 1048576)))))], [(2, .box [I a_aA.AS, I a_aA.Source, I a_aA.Next, .sl (List.map GMessage.enc a_aA.Received)]), (3, .box [I a_aB.AS, I a_aB.Source, I a_aB.Next, .sl (List.map GMessage.enc a_aB.Received)])]⟩ [([.agg [I a_aB.AS, I a_aB.Source, I a_aB.Next, .sl (List.map GMessage.enc a_aB.Received)], .one (I (l_szInbox a_aA 1048576))] : List AV) = [.agg (GInbox.enc a_aB), .one (I (l_szInbox a_aA 1048576))], MeetsAt Try.prog 22 [.agg (GInbox.enc a_aB), .one (I (l_szInbox a_aA 1048576))] [.one (I (l_szInbox a_aB (l_szInbox a_aA 1048576)))] (none)] (by kernel_rfl) ⟨(by first | rfl | simp only [Int.toNat_natCast, List.length_map, List.nil_append, List.map_append, List.map_cons, List.map_nil, List.map_take, List.map_drop, List.map_replicate]), (l_szInbox_ok a_aB (l_szInbox a_aA 1048576)), trivial⟩ (?_)
    refine andThen_normal ?_
    refine aw_seq ?_
    refine aw_seq ?_
    refine aw_reg [] [2, 3, 19] [2, 3] [] ⟨[(2, none, .val (.one (.ptr 2 0))), (3, none, .val (.one (.ptr 3 0))), (19, none, .val (.one (b1 (decide (((l_szInbox a_aB (l_szInbox a_aA 1048576)) : Int) < 0)))))], [(2, .box [I a_aA.AS, I a_aA.Source, I a_aA.Next, .sl (List.map GMessage.enc a_aA.Received)]), (3, .box [I a_aB.AS, I a_aB.Source, I a_aB.Next, .sl (List.map GMessage.enc a_aB.Received)])]⟩ [] (by kernel_rfl) trivial (?_)
    refine andThen_normal ?_
    refine aw_cond (decide (((l_szInbox a_aB (l_szInbox a_aA 1048576)) : Int) < 0)) (by kernel_rfl) (fun h2 => ?_) (fun h2 => ?_)
    · rw [h2, cond_true] at hs
      refine aw_seq ?_
      refine aw_reg [] [4] [] [] ⟨[(4, none, .val (.one (b1 true)))], []⟩ [] (by kernel_rfl) trivial (?_)
      refine andThen_normal ?_
      exact aw_ret (ret_thru (ends_data (ys := [.one (b1 true)]) (.inl rfl) (by kernel_rfl) (by kernel_rfl) hs))
    · rw [h2, cond_false] at hs
      refine aw_pick [2, 3] [2, 3] ⟨[(2, none, .val (.one (.ptr 2 0))), (3, none, .val (.one (.ptr 3 0)))], [(2, .box [I a_aA.AS, I a_aA.Source, I a_aA.Next, .sl (List.map GMessage.enc a_aA.Received)]), (3, .box [I a_aB.AS, I a_aB.Source, I a_aB.Next, .sl (List.map GMessage.enc a_aB.Received)])]⟩ (by kernel_rfl) ?_
      refine aw_skip ?_
      refine andThen_normal ?_
      refine aw_seq ?_
      refine aw_drw [(21, .call [.agg (GInbox.enc a_aA)] [.agg (GInbox.enc (l_toInbox a_aA))] (some [[(0, 0), (0, 0), (0, 0), (87, 1)]])), (23, .call [.agg (GInbox.enc a_aB)] [.agg (GInbox.enc (l_toInbox a_aB))] (some [[(0, 0), (0, 0), (0, 0), (87, 1)]])), (24, .call [.agg (GInbox.enc (l_toInbox a_aA)), .agg (GInbox.enc (l_toInbox a_aB))] [.one (b1 (s_EqualInboxes (l_toInbox a_aA) (l_toInbox a_aB)))] (none))] [0, 2, 1, 3, 4, 5] [2, 3, 6] [2, 3] [] ⟨[(2, none, .val (.one (.ptr 2 0))), (3, none, .val (.one (.ptr 3 0))), (6, none, .val (.one (b1 (s_EqualInboxes (l_toInbox a_aA) (l_toInbox a_aB)))))], [(2, .box [I a_aA.AS, I a_aA.Source, I a_aA.Next, .sl (List.map GMessage.enc a_aA.Received)]), (3, .box [I a_aB.AS, I a_aB.Source, I a_aB.Next, .sl (List.map GMessage.enc a_aB.Received)])]⟩ [([.agg [I a_aA.AS, I a_aA.Source, I a_aA.Next, .sl (List.map GMessage.enc a_aA.Received)]] : List AV) = [.agg (GInbox.enc a_aA)], MeetsAt Try.prog 24 [.agg (GInbox.enc a_aA)] [.agg (GInbox.enc (l_toInbox a_aA))] (some [[(0, 0), (0, 0), (0, 0), (87, 1)]]), ([.agg [I a_aB.AS, I a_aB.Source, I a_aB.Next, .sl (List.map GMessage.enc a_aB.Received)]] : List AV) = [.agg (GInbox.enc a_aB)], MeetsAt Try.prog 24 [.agg (GInbox.enc a_aB)] [.agg (GInbox.enc (l_toInbox a_aB))] (some [[(0, 0), (0, 0), (0, 0), (87, 1)]]), ([.agg [I ((l_toInbox a_aA).AS), I ((l_toInbox a_aA).Source), I ((l_toInbox a_aA).Next), .sl (List.map GMessage.enc ((l_toInbox a_aA).Received))], .agg [I ((l_toInbox a_aB).AS), I ((l_toInbox a_aB).Source), I ((l_toInbox a_aB).Next), .sl (List.map GMessage.enc ((l_toInbox a_aB).Received))]] : List AV) = [.agg (GInbox.enc (l_toInbox a_aA)), .agg (GInbox.enc (l_toInbox a_aB))], MeetsAt Try.prog 26 [.agg (GInbox.enc (l_toInbox a_aA)), .agg (GInbox.enc (l_toInbox a_aB))] [.one (b1 (s_EqualInboxes (l_toInbox a_aA) (l_toInbox a_aB)))] (none)] (by kernel_rfl) (by kernel_rfl) (Nat.le_of_ble_eq_true rfl) (by kernel_rfl) ⟨(by first | rfl | simp only [Int.toNat_natCast, List.length_map, List.nil_append, List.map_append, List.map_cons, List.map_nil, List.map_take, List.map_drop, List.map_replicate]), (l_toInbox_ok a_aA (by first | assumption | exact hp _ (by simp [GInbox.enc]) | exact hf0 (by assumption) | exact hf1 (by assumption) (by assumption) | omega)), (by first | rfl | simp only [Int.toNat_natCast, List.length_map, List.nil_append, List.map_append, List.map_cons, List.map_nil, List.map_take, List.map_drop, List.map_replicate]), (l_toInbox_ok a_aB (by first | assumption | exact hp _ (by simp [GInbox.enc]) | exact hf0 (by assumption) | exact hf1 (by assumption) (by assumption) | omega)), (by first | rfl | simp only [Int.toNat_natCast, List.length_map, List.nil_append, List.map_append, List.map_cons, List.map_nil, List.map_take, List.map_drop, List.map_replicate]), (s_EqualInboxes_ok (l_toInbox a_aA) (l_toInbox a_aB)), trivial⟩ (?_)
      refine andThen_normal ?_
      refine aw_seq ?_
      refine aw_reg [(26, .call [.agg (GInbox.enc a_aA)] [.agg (GInbox.enc (l_toInbox a_aA))] (some [[(0, 0), (0, 0), (0, 0), (87, 1)]]))] [2, 3, 6, 7] [2, 3, 7, 1419] [] ⟨[(2, none, .val (.one (.ptr 2 0))), (3, none, .val (.one (.ptr 3 0))), (6, none, .val (.one (b1 (s_EqualInboxes (l_toInbox a_aA) (l_toInbox a_aB))))), (7, none, .val (.one (.ptr 7 0)))], [(2, .box [I a_aA.AS, I a_aA.Source, I a_aA.Next, .sl (List.map GMessage.enc a_aA.Received)]), (3, .box [I a_aB.AS, I a_aB.Source, I a_aB.Next, .sl (List.map GMessage.enc a_aB.Received)]), (7, .box [I ((l_toInbox a_aA).AS), I ((l_toInbox a_aA).Source), I ((l_toInbox a_aA).Next), .row 1419]), (1419, .row 87 1 (List.map GMessage.enc ((l_toInbox a_aA).Received)) true)]⟩ [([.agg [I a_aA.AS, I a_aA.Source, I a_aA.Next, .sl (List.map GMessage.enc a_aA.Received)]] : List AV) = [.agg (GInbox.enc a_aA)], MeetsAt Try.prog 24 [.agg (GInbox.enc a_aA)] [.agg (GInbox.enc (l_toInbox a_aA))] (some [[(0, 0), (0, 0), (0, 0), (87, 1)]])] (by kernel_rfl) ⟨(by first | rfl | simp only [Int.toNat_natCast, List.length_map, List.nil_append, List.map_append, List.map_cons, List.map_nil, List.map_take, List.map_drop, List.map_replicate]), (l_toInbox_ok a_aA (by first | assumption | exact hp _ (by simp [GInbox.enc]) | exact hf0 (by assumption) | exact hf1 (by assumption) (by assumption) | omega)), trivial⟩ (?_)
      refine andThen_normal ?_
      refine aw_seq ?_
      refine aw_reg [(28, .call [.agg (GInbox.enc a_aB)] [.agg (GInbox.enc (l_toInbox a_aB))] (some [[(0, 0), (0, 0), (0, 0), (87, 1)]]))] [2, 3, 6, 7, 8] [2, 3, 7, 8, 1419, 1451] [] ⟨[(2, none, .val (.one (.ptr 2 0))), (3, none, .val (.one (.ptr 3 0))), (6, none, .val (.one (b1 (s_EqualInboxes (l_toInbox a_aA) (l_toInbox a_aB))))), (7, none, .val (.one (.ptr 7 0))), (8, none, .val (.one (.ptr 8 0)))], [(2, .box [I a_aA.AS, I a_aA.Source, I a_aA.Next, .sl (List.map GMessage.enc a_aA.Received)]), (3, .box [I a_aB.AS, I a_aB.Source, I a_aB.Next, .sl (List.map GMessage.enc a_aB.Received)]), (7, .box [I ((l_toInbox a_aA).AS), I ((l_toInbox a_aA).Source), I ((l_toInbox a_aA).Next), .row 1419]), (8, .box [I ((l_toInbox a_aB).AS), I ((l_toInbox a_aB).Source), I ((l_toInbox a_aB).Next), .row 1451]), (1419, .row 87 1 (List.map GMessage.enc ((l_toInbox a_aA).Received)) true), (1451, .row 87 1 (List.map GMessage.enc ((l_toInbox a_aB).Received)) true)]⟩ [([.agg [I a_aB.AS, I a_aB.Source, I a_aB.Next, .sl (List.map GMessage.enc a_aB.Received)]] : List AV) = [.agg (GInbox.enc a_aB)], MeetsAt Try.prog 24 [.agg (GInbox.enc a_aB)] [.agg (GInbox.enc (l_toInbox a_aB))] (some [[(0, 0), (0, 0), (0, 0), (87, 1)]])] (by kernel_rfl) ⟨(by first | rfl | simp only [Int.toNat_natCast, List.length_map, List.nil_append, List.map_append, List.map_cons, List.map_nil, List.map_take, List.map_drop, List.map_replicate]), (l_toInbox_ok a_aB (by first | assumption | exact hp _ (by simp [GInbox.enc]) | exact hf0 (by assumption) | exact hf1 (by assumption) (by assumption) | omega)), trivial⟩ (?_)
      refine andThen_normal ?_
      refine aw_seq ?_
      refine aw_reg [(31, .call [.agg (GInbox.enc (l_toInbox a_aA)), .agg (GInbox.enc (l_toInbox a_aB))] [.one (b1 (i_EqualInboxes (l_toInbox a_aA) (l_toInbox a_aB)))] (none))] [2, 3, 6, 7, 8, 9] [2, 3, 7, 8, 1419, 1451] [] ⟨[(2, none, .val (.one (.ptr 2 0))), (3, none, .val (.one (.ptr 3 0))), (6, none, .val (.one (b1 (s_EqualInboxes (l_toInbox a_aA) (l_toInbox a_aB))))), (7, none, .val (.one (.ptr 7 0))), (8, none, .val (.one (.ptr 8 0))), (9, none, .val (.one (b1 (i_EqualInboxes (l_toInbox a_aA) (l_toInbox a_aB)))))], [(2, .box [I a_aA.AS, I a_aA.Source, I a_aA.Next, .sl (List.map GMessage.enc a_aA.Received)]), (3, .box [I a_aB.AS, I a_aB.Source, I a_aB.Next, .sl (List.map GMessage.enc a_aB.Received)]), (7, .box [I ((l_toInbox a_aA).AS), I ((l_toInbox a_aA).Source), I ((l_toInbox a_aA).Next), .row 1419]), (8, .box [I ((l_toInbox a_aB).AS), I ((l_toInbox a_aB).Source), I ((l_toInbox a_aB).Next), .row 1451]), (1419, .row 87 1 (List.map GMessage.enc ((l_toInbox a_aA).Received)) true), (1451, .row 87 1 (List.map GMessage.enc ((l_toInbox a_aB).Received)) true)]⟩ [([.agg [I ((l_toInbox a_aA).AS), I ((l_toInbox a_aA).Source), I ((l_toInbox a_aA).Next), .sl (List.map GMessage.enc ((l_toInbox a_aA).Received))], .agg [I ((l_toInbox a_aB).AS), I ((l_toInbox a_aB).Source), I ((l_toInbox a_aB).Next), .sl (List.map GMessage.enc ((l_toInbox a_aB).Received))]] : List AV) = [.agg (GInbox.enc (l_toInbox a_aA)), .agg (GInbox.enc (l_toInbox a_aB))], MeetsAt Try.prog 27 [.agg (GInbox.enc (l_toInbox a_aA)), .agg (GInbox.enc (l_toInbox a_aB))] [.one (b1 (i_EqualInboxes (l_toInbox a_aA) (l_toInbox a_aB)))] (none)] (by kernel_rfl) ⟨(by first | rfl | simp only [Int.toNat_natCast, List.length_map, List.nil_append, List.map_append, List.map_cons, List.map_nil, List.map_take, List.map_drop, List.map_replicate]), (i_EqualInboxes_ok (l_toInbox a_aA) (l_toInbox a_aB)), trivial⟩ (?_)
      refine andThen_normal ?_
      refine aw_seq ?_
      refine aw_seq ?_
      refine aw_reg [] [2, 3, 7, 8, 34] [2, 3, 7, 8, 1419, 1451] [] ⟨[(2, none, .val (.one (.ptr 2 0))), (3, none, .val (.one (.ptr 3 0))), (7, none, .val (.one (.ptr 7 0))), (8, none, .val (.one (.ptr 8 0))), (34, none, .val (.one (b1 (!((i_EqualInboxes (l_toInbox a_aA) (l_toInbox a_aB)) == (s_EqualInboxes (l_toInbox a_aA) (l_toInbox a_aB)))))))], [(2, .box [I a_aA.AS, I a_aA.Source, I a_aA.Next, .sl (List.map GMessage.enc a_aA.Received)]), (3, .box [I a_aB.AS, I a_aB.Source, I a_aB.Next, .sl (List.map GMessage.enc a_aB.Received)]), (7, .box [I ((l_toInbox a_aA).AS), I ((l_toInbox a_aA).Source), I ((l_toInbox a_aA).Next), .row 1419]), (8, .box [I ((l_toInbox a_aB).AS), I ((l_toInbox a_aB).Source), I ((l_toInbox a_aB).Next), .row 1451]), (1419, .row 87 1 (List.map GMessage.enc ((l_toInbox a_aA).Received)) true), (1451, .row 87 1 (List.map GMessage.enc ((l_toInbox a_aB).Received)) true)]⟩ [] (by kernel_rfl) trivial (?_)
      refine andThen_normal ?_
      refine aw_cond (!((i_EqualInboxes (l_toInbox a_aA) (l_toInbox a_aB)) == (s_EqualInboxes (l_toInbox a_aA) (l_toInbox a_aB)))) (by kernel_rfl) (fun h3 => ?_) (fun h3 => ?_)
      · rw [h3, cond_true] at hs
        refine aw_seq ?_
        refine aw_reg [] [4] [] [] ⟨[(4, none, .val (.one (b1 false)))], []⟩ [] (by kernel_rfl) trivial (?_)
        refine andThen_normal ?_
        exact aw_ret (ret_thru (ends_data (ys := [.one (b1 false)]) (.inl rfl) (by kernel_rfl) (by kernel_rfl) hs))
      · rw [h3, cond_false] at hs
        refine aw_pick [2, 3, 7, 8] [2, 3, 7, 8, 1419, 1451] ⟨[(2, none, .val (.one (.ptr 2 0))), (3, none, .val (.one (.ptr 3 0))), (7, none, .val (.one (.ptr 7 0))), (8, none, .val (.one (.ptr 8 0)))], [(2, .box [I a_aA.AS, I a_aA.Source, I a_aA.Next, .sl (List.map GMessage.enc a_aA.Received)]), (3, .box [I a_aB.AS, I a_aB.Source, I a_aB.Next, .sl (List.map GMessage.enc a_aB.Received)]), (7, .box [I ((l_toInbox a_aA).AS), I ((l_toInbox a_aA).Source), I ((l_toInbox a_aA).Next), .row 1419]), (8, .box [I ((l_toInbox a_aB).AS), I ((l_toInbox a_aB).Source), I ((l_toInbox a_aB).Next), .row 1451]), (1419, .row 87 1 (List.map GMessage.enc ((l_toInbox a_aA).Received)) true), (1451, .row 87 1 (List.map GMessage.enc ((l_toInbox a_aB).Received)) true)]⟩ (by kernel_rfl) ?_
        refine aw_skip ?_
        refine andThen_normal ?_
        refine aw_seq ?_
        refine aw_seq ?_
        refine aw_drw [(37, .call [.agg (GInbox.enc a_aA)] [.agg (GInbox.enc (l_toInbox a_aA))] (some [[(0, 0), (0, 0), (0, 0), (87, 1)]])), (38, .call [.agg (GInbox.enc (l_toInbox a_aA)), .agg (GInbox.enc (l_toInbox a_aA))] [.one (b1 (l_eqInbox (l_toInbox a_aA) (l_toInbox a_aA)))] (none))] [0, 1, 2, 3, 4] [3, 8, 39] [3, 8, 1451] [] ⟨[(3, none, .val (.one (.ptr 3 0))), (8, none, .val (.one (.ptr 8 0))), (39, none, .val (.one (b1 (!(l_eqInbox (l_toInbox a_aA) (l_toInbox a_aA))))))], [(3, .box [I a_aB.AS, I a_aB.Source, I a_aB.Next, .sl (List.map GMessage.enc a_aB.Received)]), (8, .box [I ((l_toInbox a_aB).AS), I ((l_toInbox a_aB).Source), I ((l_toInbox a_aB).Next), .row 1451]), (1451, .row 87 1 (List.map GMessage.enc ((l_toInbox a_aB).Received)) true)]⟩ [([.agg [I a_aA.AS, I a_aA.Source, I a_aA.Next, .sl (List.map GMessage.enc a_aA.Received)]] : List AV) = [.agg (GInbox.enc a_aA)], MeetsAt Try.prog 24 [.agg (GInbox.enc a_aA)] [.agg (GInbox.enc (l_toInbox a_aA))] (some [[(0, 0), (0, 0), (0, 0), (87, 1)]]), ([.agg [I ((l_toInbox a_aA).AS), I ((l_toInbox a_aA).Source), I ((l_toInbox a_aA).Next), .sl (List.map GMessage.enc ((l_toInbox a_aA).Received))], .agg [I ((l_toInbox a_aA).AS), I ((l_toInbox a_aA).Source), I ((l_toInbox a_aA).Next), .sl (List.map GMessage.enc ((l_toInbox a_aA).Received))]] : List AV) = [.agg (GInbox.enc (l_toInbox a_aA)), .agg (GInbox.enc (l_toInbox a_aA))], MeetsAt Try.prog 19 [.agg (GInbox.enc (l_toInbox a_aA)), .agg (GInbox.enc (l_toInbox a_aA))] [.one (b1 (l_eqInbox (l_toInbox a_aA) (l_toInbox a_aA)))] (none)] (by kernel_rfl) (by kernel_rfl) (Nat.le_of_ble_eq_true rfl) (by kernel_rfl) ⟨(by first | rfl | simp only [Int.toNat_natCast, List.length_map, List.nil_append, List.map_append, List.map_cons, List.map_nil, List.map_take, List.map_drop, List.map_replicate]), (l_toInbox_ok a_aA (by first | assumption | exact hp _ (by simp [GInbox.enc]) | exact hf0 (by assumption) | exact hf1 (by assumption) (by assumption) | omega)), (by first | rfl | simp only [Int.toNat_natCast, List.length_map, List.nil_append, List.map_append, List.map_cons, List.map_nil, List.map_take, List.map_drop, List.map_replicate]), (l_eqInbox_ok (l_toInbox a_aA) (l_toInbox a_aA)), trivial⟩ (?_)
        refine andThen_normal ?_
        refine aw_cond (!(l_eqInbox (l_toInbox a_aA) (l_toInbox a_aA))) (by kernel_rfl) (fun h4 => ?_) (fun h4 => ?_)
        · rw [h4, cond_true] at hs
          refine aw_seq ?_
          refine aw_reg [] [4] [] [] ⟨[(4, none, .val (.one (b1 false)))], []⟩ [] (by kernel_rfl) trivial (?_)
          refine andThen_normal ?_
          exact aw_ret (ret_thru (ends_data (ys := [.one (b1 false)]) (.inl rfl) (by kernel_rfl) (by kernel_rfl) hs))
        · rw [h4, cond_false] at hs
          refine aw_pick [3, 8] [3, 8, 1451] ⟨[(3, none, .val (.one (.ptr 3 0))), (8, none, .val (.one (.ptr 8 0)))], [(3, .box [I a_aB.AS, I a_aB.Source, I a_aB.Next, .sl (List.map GMessage.enc a_aB.Received)]), (8, .box [I ((l_toInbox a_aB).AS), I ((l_toInbox a_aB).Source), I ((l_toInbox a_aB).Next), .row 1451]), (1451, .row 87 1 (List.map GMessage.enc ((l_toInbox a_aB).Received)) true)]⟩ (by kernel_rfl) ?_
          refine aw_skip ?_
          refine andThen_normal ?_
          refine aw_seq ?_
          refine aw_seq ?_
          refine aw_drw [(42, .call [.agg (GInbox.enc a_aB)] [.agg (GInbox.enc (l_toInbox a_aB))] (some [[(0, 0), (0, 0), (0, 0), (87, 1)]])), (43, .call [.agg (GInbox.enc (l_toInbox a_aB)), .agg (GInbox.enc (l_toInbox a_aB))] [.one (b1 (l_eqInbox (l_toInbox a_aB) (l_toInbox a_aB)))] (none))] [0, 1, 2, 3, 4] [44] [] [] ⟨[(44, none, .val (.one (b1 (!(l_eqInbox (l_toInbox a_aB) (l_toInbox a_aB))))))], []⟩ [([.agg [I a_aB.AS, I a_aB.Source, I a_aB.Next, .sl (List.map GMessage.enc a_aB.Received)]] : List AV) = [.agg (GInbox.enc a_aB)], MeetsAt Try.prog 24 [.agg (GInbox.enc a_aB)] [.agg (GInbox.enc (l_toInbox a_aB))] (some [[(0, 0), (0, 0), (0, 0), (87, 1)]]), ([.agg [I ((l_toInbox a_aB).AS), I ((l_toInbox a_aB).Source), I ((l_toInbox a_aB).Next), .sl (List.map GMessage.enc ((l_toInbox a_aB).Received))], .agg [I ((l_toInbox a_aB).AS), I ((l_toInbox a_aB).Source), I ((l_toInbox a_aB).Next), .sl (List.map GMessage.enc ((l_toInbox a_aB).Received))]] : List AV) = [.agg (GInbox.enc (l_toInbox a_aB)), .agg (GInbox.enc (l_toInbox a_aB))], MeetsAt Try.prog 19 [.agg (GInbox.enc (l_toInbox a_aB)), .agg (GInbox.enc (l_toInbox a_aB))] [.one (b1 (l_eqInbox (l_toInbox a_aB) (l_toInbox a_aB)))] (none)] (by kernel_rfl) (by kernel_rfl) (Nat.le_of_ble_eq_true rfl) (by kernel_rfl) ⟨(by first | rfl | simp only [Int.toNat_natCast, List.length_map, List.nil_append, List.map_append, List.map_cons, List.map_nil, List.map_take, List.map_drop, List.map_replicate]), (l_toInbox_ok a_aB (by first | assumption | exact hp _ (by simp [GInbox.enc]) | exact hf0 (by assumption) | exact hf1 (by assumption) (by assumption) | omega)), (by first | rfl | simp only [Int.toNat_natCast, List.length_map, List.nil_append, List.map_append, List.map_cons, List.map_nil, List.map_take, List.map_drop, List.map_replicate]), (l_eqInbox_ok (l_toInbox a_aB) (l_toInbox a_aB)), trivial⟩ (?_)
          refine andThen_normal ?_
          refine aw_cond (!(l_eqInbox (l_toInbox a_aB) (l_toInbox a_aB))) (by kernel_rfl) (fun h5 => ?_) (fun h5 => ?_)
          · rw [h5, cond_true] at hs
            refine aw_seq ?_
            refine aw_reg [] [4] [] [] ⟨[(4, none, .val (.one (b1 false)))], []⟩ [] (by kernel_rfl) trivial (?_)
            refine andThen_normal ?_
            exact aw_ret (ret_thru (ends_data (ys := [.one (b1 false)]) (.inl rfl) (by kernel_rfl) (by kernel_rfl) hs))
          · rw [h5, cond_false] at hs
            refine aw_pick [] [] ⟨[], []⟩ (by kernel_rfl) ?_
            refine aw_skip ?_
            refine andThen_normal ?_
            refine aw_seq ?_
            refine aw_reg [] [4] [] [] ⟨[(4, none, .val (.one (b1 true)))], []⟩ [] (by kernel_rfl) trivial (?_)
            refine andThen_normal ?_
            exact aw_ret (ends_data (ys := [.one (b1 true)]) (.inl rfl) (by kernel_rfl) (by kernel_rfl) hs)

end Go.Proofs.Ytdmiboplfgmgiaa
