/-
  Plain facts on what the functions compute, that their walks need. Conditions: those of each theorem.
-/
import Derived.Test.YtdmiboplfgmgiaaGd
import Derived.Test.YtdmiboplfgmgiaaAbP
set_option linter.unusedVariables false
namespace Go.Proofs.Ytdmiboplfgmgiaa
open Go.Ab
theorem s_l34Place_l1_lt (a b c : Int) : ∀ (l : List GUsage) (k : Nat) (r : Int), s_l34Place_l1 a b c l k = Sum.inl r → r < (k : Int) + l.length
  | [], k, r, h => by simp [s_l34Place_l1] at h
  | x :: l, k, r, h => by
    rw [s_l34Place_l1] at h
    cases hc : (cond (cond ((x.ID : Int) == a) ((x.AS : Int) == b) false) ((x.Interface : Int) == c) false) with
    | true => rw [hc, cond_true] at h; injection h with h; subst h; simp; omega
    | false => rw [hc, cond_false] at h; have := s_l34Place_l1_lt a b c l (k + 1) r h; simp; omega
theorem s_l34Place_lt (l : List GUsage) (a b c : Int) : s_l34Place l a b c < l.length := by
  unfold s_l34Place
  cases h : s_l34Place_l1 a b c l 0 with
  | inl r => have := s_l34Place_l1_lt a b c l 0 r h; simpa using this
  | inr u => show (-1 : Int) < _; omega
theorem i_usageAt_l1_lt (a b c : Int) : ∀ (l : List GUsage) (k : Nat) (r : Int), i_usageAt_l1 a b c l k = Sum.inl r → r < (k : Int) + l.length
  | [], k, r, h => by simp [i_usageAt_l1] at h
  | x :: l, k, r, h => by
    rw [i_usageAt_l1] at h
    cases hc : (cond (cond ((x.ID : Int) == a) ((x.AS : Int) == b) false) ((x.Interface : Int) == c) false) with
    | true => rw [hc, cond_true] at h; injection h with h; subst h; simp; omega
    | false => rw [hc, cond_false] at h; have := i_usageAt_l1_lt a b c l (k + 1) r h; simp; omega
theorem i_usageAt_lt (g : GScheduler) (a b c : Int) : i_usageAt g a b c < g.Usages.length := by
  unfold i_usageAt
  cases h : i_usageAt_l1 a b c g.Usages 0 with
  | inl r => have := i_usageAt_l1_lt a b c g.Usages 0 r h; simpa using this
  | inr u => show (-1 : Int) < _; omega

theorem sz_ByteS (a : List Int) (left : Int) (hw : T.Wf (.sl (a.map encU))) (h0 : 0 ≤ left) (h1 : left ≤ 1048576) : SzOk (l_szByteS a left) left (T.Sm (.sl (a.map encU))) :=
  sz_flat hw.len h0 h1 fun h => .mk h fun x _ t ht => by simp [encU] at ht; subst ht; exact .lit
theorem sz_Message (x : GMessage) (left : Int) (hw : WfL x.enc) (h0 : 0 ≤ left) (h1 : left ≤ 1048576) : SzOk (l_szMessage x left) left (SmL x.enc) := by
  refine (sz_field (sz_ByteS x.Data left (hw _ (by simp [GMessage.enc])) h0 h1) fun _ h2 _ => sz_done h2).imp fun ⟨p, _⟩ t ht => ?_
  simp [GMessage.enc] at ht
  subst ht
  exact p
theorem sz_MessageS_l1 : ∀ (l : List GMessage) (k : Nat) (left : Int), T.Wf (.sl (l.map GMessage.enc)) → 0 ≤ left → left ≤ 1048576 → SzOk (Sum.elim (fun r => r) (fun r => r) (l_szMessageS_l1 l k left)) left (∀ x ∈ l, SmL x.enc)
  | [], k, left, _, h0, _ => .inr ⟨by simp, h0, Int.le_refl _⟩
  | x :: l, k, left, hw, h0, h1 => by
    rw [l_szMessageS_l1]
    have hx := sz_Message x left (hw.el (List.mem_cons_self ..)) h0 h1
    by_cases hr : l_szMessage x left < 0
    · rw [decide_eq_true hr, cond_true]; exact .inl (by decide)
    · rw [decide_eq_false hr, cond_false]
      obtain ⟨p, q1, q2⟩ := hx.get hr
      rcases sz_MessageS_l1 l (k + 1) _ hw.tail q1 (by omega) with h | ⟨h3, h4, h5⟩
      · exact .inl h
      · exact .inr ⟨fun y hy => (List.mem_cons.1 hy).elim (fun e => e ▸ p) (h3 y), h4, by omega⟩
theorem sz_MessageS (l : List GMessage) (left : Int) (hw : T.Wf (.sl (l.map GMessage.enc))) (h0 : 0 ≤ left) (h1 : left ≤ 1048576) : SzOk (l_szMessageS l left) left (T.Sm (.sl (l.map GMessage.enc))) := by
  unfold l_szMessageS
  rw [sz_len hw.len h0 h1]
  by_cases hr : left - (l.length : Int) < 0
  · rw [decide_eq_true hr, cond_true]; exact .inl (by decide)
  · rw [decide_eq_false hr, cond_false]
    rcases sz_MessageS_l1 l 0 (left - (l.length : Int)) hw (by omega) (by omega) with h | ⟨h3, h4, h5⟩
    · exact .inl h
    · exact .inr ⟨.mk (by omega) h3, h4, by omega⟩

theorem sz_Inbox (x : GInbox) (left : Int) (hw : WfL x.enc) (h0 : 0 ≤ left) (h1 : left ≤ 1048576) : SzOk (l_szInbox x left) left (SmL x.enc) := by
  refine (sz_field (sz_MessageS x.Received left (hw _ (by simp [GInbox.enc])) h0 h1) fun _ h2 _ => sz_done h2).imp fun ⟨p, _⟩ t ht => ?_
  simp only [GInbox.enc, List.mem_cons, List.not_mem_nil, or_false] at ht
  rcases ht with rfl | rfl | rfl | rfl
  · exact .lit
  · exact .lit
  · exact .lit
  · exact p

theorem sz_two {r r2 : Int} {p q : Prop} (h : SzOk r 1048576 p) (h2 : 0 ≤ r → r ≤ 1048576 → SzOk r2 r q) (hr : decide (r < 0) = false) (hr2 : decide (r2 < 0) = false) : q := by
  obtain ⟨_, h3, h4⟩ := h.get (by simpa using hr)
  exact ((h2 h3 h4).get (by simpa using hr2)).1
theorem sz_Inbox2 (a b : GInbox) (ha : WfL a.enc) (hb : WfL b.enc) (h1 : decide (l_szInbox a 1048576 < 0) = false) (h2 : decide (l_szInbox b (l_szInbox a 1048576) < 0) = false) : SmL b.enc :=
  sz_two (sz_Inbox a 1048576 ha (by decide) (by decide)) (fun h3 h4 => sz_Inbox b _ hb h3 h4) h1 h2
theorem sz_InboxS_l1 : ∀ (l : List GInbox) (k : Nat) (left : Int), T.Wf (.sl (l.map GInbox.enc)) → 0 ≤ left → left ≤ 1048576 → SzOk (Sum.elim (fun r => r) (fun r => r) (l_szInboxS_l1 l k left)) left (∀ x ∈ l, SmL x.enc)
  | [], k, left, _, h0, _ => .inr ⟨by simp, h0, Int.le_refl _⟩
  | x :: l, k, left, hw, h0, h1 => by
    rw [l_szInboxS_l1]
    have hx := sz_Inbox x left (hw.el (List.mem_cons_self ..)) h0 h1
    by_cases hr : l_szInbox x left < 0
    · rw [decide_eq_true hr, cond_true]; exact .inl (by decide)
    · rw [decide_eq_false hr, cond_false]
      obtain ⟨p, q1, q2⟩ := hx.get hr
      rcases sz_InboxS_l1 l (k + 1) _ hw.tail q1 (by omega) with h | ⟨h3, h4, h5⟩
      · exact .inl h
      · exact .inr ⟨fun y hy => (List.mem_cons.1 hy).elim (fun e => e ▸ p) (h3 y), h4, by omega⟩
theorem sz_InboxS (l : List GInbox) (left : Int) (hw : T.Wf (.sl (l.map GInbox.enc))) (h0 : 0 ≤ left) (h1 : left ≤ 1048576) : SzOk (l_szInboxS l left) left (T.Sm (.sl (l.map GInbox.enc))) := by
  unfold l_szInboxS
  rw [sz_len hw.len h0 h1]
  by_cases hr : left - (l.length : Int) < 0
  · rw [decide_eq_true hr, cond_true]; exact .inl (by decide)
  · rw [decide_eq_false hr, cond_false]
    rcases sz_InboxS_l1 l 0 (left - (l.length : Int)) hw (by omega) (by omega) with h | ⟨h3, h4, h5⟩
    · exact .inl h
    · exact .inr ⟨.mk (by omega) h3, h4, by omega⟩
theorem sz_ReservationS (l : List GReservation) (left : Int) (hw : T.Wf (.sl (l.map GReservation.enc))) (h0 : 0 ≤ left) (h1 : left ≤ 1048576) : SzOk (l_szReservationS l left) left (T.Sm (.sl (l.map GReservation.enc))) :=
  sz_flat hw.len h0 h1 fun h => .mk h fun x _ t ht => by simp [GReservation.enc] at ht; rcases ht with rfl | rfl | rfl | rfl | rfl <;> exact .lit
theorem sz_UsageS (l : List GUsage) (left : Int) (hw : T.Wf (.sl (l.map GUsage.enc))) (h0 : 0 ≤ left) (h1 : left ≤ 1048576) : SzOk (l_szUsageS l left) left (T.Sm (.sl (l.map GUsage.enc))) :=
  sz_flat hw.len h0 h1 fun h => .mk h fun x _ t ht => by simp [GUsage.enc] at ht; rcases ht with rfl | rfl | rfl | rfl <;> exact .lit
theorem sz_Scheduler (x : GScheduler) (left : Int) (hw : WfL x.enc) (h0 : 0 ≤ left) (h1 : left ≤ 1048576) : SzOk (l_szScheduler x left) left (SmL x.enc) := by
  refine (sz_field (sz_ReservationS x.Reservations left (hw _ (by simp [GScheduler.enc])) h0 h1) fun _ h2 h3 => sz_field (sz_UsageS x.Usages _ (hw _ (by simp [GScheduler.enc])) h2 (by omega)) fun _ h4 _ => sz_done h4).imp fun ⟨p, q, _⟩ t ht => ?_
  simp only [GScheduler.enc, List.mem_cons, List.not_mem_nil, or_false] at ht
  rcases ht with rfl | rfl | rfl
  · exact .lit
  · exact p
  · exact q
theorem sz_Scheduler2 (a b : GScheduler) (ha : WfL a.enc) (hb : WfL b.enc) (h1 : decide (l_szScheduler a 1048576 < 0) = false) (h2 : decide (l_szScheduler b (l_szScheduler a 1048576) < 0) = false) : SmL b.enc :=
  sz_two (sz_Scheduler a 1048576 ha (by decide) (by decide)) (fun h3 h4 => sz_Scheduler b _ hb h3 h4) h1 h2


end Go.Proofs.Ytdmiboplfgmgiaa
