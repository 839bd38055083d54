/-
  Stores into rows and windows; make; slice literals. Over any program. Conditions: none beyond the meaning.
-/
import Derived.Test.YtdmiboplfgmgiaaWD
set_option linter.unusedVariables false
set_option linter.unusedSectionVars false
namespace Go.V
open Go.Ab Go.RowKit

section
variable {X : Ctx} {E : List Con} {f : F} {a : Act} {w : World} {o : Oper} {R : Type} {K : F → Option R} {r : R}

theorem mem_frzAll_row {ids : List Nat} {q n e k : Nat} {t : Ty} {l : List (den t)} {deep : Bool} (hr : ids.contains q = false) (hm : (q, n, O.row e k t l deep) ∈ f.ob) : ∃ m, (q, m, O.row e k t l deep) ∈ (f.frzAll ids).ob := by
  induction ids generalizing f n with
  | nil => exact ⟨n, hm⟩
  | cons i is ih =>
    simp only [List.contains_cons, Bool.or_eq_false_iff] at hr
    have hx : ∃ m, (q, m, O.row e k t l deep) ∈ (f.frzRow i).ob := by
      unfold F.frzRow
      split
      · refine ⟨n, ?_⟩
        simp only [List.mem_map, List.mem_filter]
        exact ⟨(q, n, .row e k t l deep), ⟨hm, by simpa using hr.1⟩, by simp [O.names]⟩
      · exact ⟨n, hm⟩
    obtain ⟨m, hm'⟩ := hx
    exact ih (f := f.frzRow i) hr.2 hm'
theorem leafT_map {t : Ty} {l : List (den t)} (i : Nat) (z : den t) : (l.set i z).map (cells t) = (l.map (cells t)).set i (cells t z) := by rw [List.map_set]

/-- An element of a row is written: its cells from off on. -/
theorem storeRow_sound {M src : Nat → Prop} {c : Cx} {ow : Nat → Option Nat} {P : Program} (h : SimC M src c ow f a w) (hsf : f.subFree) {q n e k : Nat} {t : Ty} {l : List (den t)} {deep : Bool} (hr : (q, n, .row e k t l deep) ∈ f.ob) {i off : Nat} {z : den t} {ts : List T} {us : List Value} {G : List Nat} {dp : Bool} (hi : i < l.length) (ho : off + ts.length ≤ k)
    (hz : (cells t z) = sp (cells t l[i]) off ts) (hu : RepL w us ts G) (hG : ∀ b ∈ G, okB src c ow f.ob b) (hdp : dp = true → G.Nodup ∧ ∀ b ∈ G, M b ∧ Unf w b ∧ ∃ r', ow b = some r' ∧ ∀ n x, (r', n, x) ∉ f.ob) {g b0 nn cap : Nat} (hrv : c.rv q = .slice (some ⟨g, b0, none⟩) nn cap) :
    ∃ w' ow', (storeCells ⟨g, b0 + (i * k + off), none⟩ us).run P w = .ok () w' ∧ SimC M src c ow' (f.setOb q (.row e k t (l.set i z) (deep && dp))) a w' ∧ BelowM M w w' := by
  obtain ⟨r0, r1, r2, xs, F1, r3, r4, r5, r6⟩ := h.ob _ _ _ hr
  have hkk : ∀ y ∈ l.map (cells t), y.length = k := fun y hy => by obtain ⟨y', _, rfl⟩ := List.mem_map.1 hy; rw [cells_len, r1]
  have hob : (c.rv q).ownBlock = some g := by simp [hrv, Value.ownBlock]
  have hglt := (ownsRow_lt r3 hob).1
  obtain ⟨hMg, howg⟩ := r2 g hob
  have r3' := r3
  obtain ⟨hxl, hform⟩ := r3
  rcases hform with ⟨hn, _⟩ | ⟨g', cap', cur, hrv', _, hh, h1, h2, h3, h4⟩
  · rw [hrv] at hn; cases hn
  · rw [hrv] at hrv'
    injection hrv' with e1 e2 e3
    injection e1 with e1
    injection e1 with e1 e0 _
    subst e1 e0 e2 e3
    rw [Nat.zero_add]
    have hul : us.length = ts.length := hu.length
    have hik : i * k + k ≤ l.length * k := by rw [← Nat.succ_mul]; exact Nat.mul_le_mul_right _ hi
    have hnc : l.length * k ≤ cap * k := Nat.mul_le_mul_right _ h1
    have s1 : ((l.set i z).map (cells t)).flatten = sp (l.map (cells t)).flatten (i * k + off) ts := by
      rw [leafT_map, flatten_set hkk (by simpa using hi) (by rw [cells_len, r1]), hz]
      refine sp_sp (flatten_get hkk (by simp [hi])).symm ?_ ho
      rw [flatten_length hkk, List.length_map]
      exact hik
    have hrun := run_storeCells_at (P := P) g (i * k + off) e us 0 cur w hh (by omega) (repL_one hu)
    simp only [Nat.add_zero] at hrun
    have hother : ∀ b, b ≠ g → (w.setRow g (cur.toList.take (i * k + off) ++ us ++ cur.toList.drop (i * k + off + us.length)).toArray).heap[b]? = w.heap[b]? := by
      intro b hne
      simp only [World.setRow, Array.getElem?_modify]
      rw [if_neg (Ne.symm hne)]
    have hsz : (w.setRow g (cur.toList.take (i * k + off) ++ us ++ cur.toList.drop (i * k + off + us.length)).toArray).heap.size = w.heap.size := by simp [World.setRow]
    have hokb : ∀ b, okB src c ow f.ob b → b ≠ g := fun b hok e => hok.2 ⟨q, n, _, hr, e ▸ hob⟩
    refine ⟨_, fun b => if dp = true ∧ b ∈ G then some q else ow b, hrun, ?_, ⟨rfl, rfl, rfl, by omega, fun b hlt hnm => hother b fun e => hnm (e ▸ hMg)⟩⟩
    refine h.turn hsf (y := .row e k t (l.set i z) (deep && dp)) hr (by omega) (fun b hlt hnb => hother b fun e => hnb (by rw [e]; exact hob)) (fun b _ hy => hy) (fun b o' hlt hne hm => ?_) (fun ok' hok' _ => ?_)
    · obtain ⟨m, x, hm⟩ := hm
      show (if dp = true ∧ b ∈ G then some q else ow b) = some o' ↔ ow b = some o'
      split
      · rename_i hc
        constructor
        · intro e; injection e with e; exact absurd e.symm hne
        · intro how
          obtain ⟨_, _, r', q1, q2⟩ := (hdp hc.1).2 b hc.2
          rw [q1] at how
          injection how with how
          subst how
          exact absurd hm (q2 m x)
      · exact Iff.rfl
    · obtain ⟨F2, F3, t1, t2, t3⟩ := r4.sp hu (i * k + off)
      rw [← s1] at t1
      have hFF : ∀ b ∈ F2 ++ G ++ F3, okB src c ow f.ob b := by
        intro b hb
        rcases List.mem_append.1 hb with hb | hb
        · rcases List.mem_append.1 hb with hb | hb
          · exact r5 b (t2 b (List.mem_append_left _ hb))
          · exact hG b hb
        · exact r5 b (t2 b (List.mem_append_right _ hb))
      refine ⟨r0, r1, fun b hbo => ⟨(r2 b hbo).1, ?_⟩, sp xs (i * k + off) us, F2 ++ G ++ F3, ?_, t1.frame fun b hb => hother b (hokb b (hFF b hb)), fun b hb => hok' b (t1.lt b hb) (hFF b hb), fun hd => ?_⟩
      · show (if dp = true ∧ b ∈ G then some q else ow b) = some q
        split
        · rfl
        · exact (r2 b hbo).2
      · rw [List.length_set]
        refine ⟨by rw [sp_length (by rw [hxl, hul]; omega)]; exact hxl, .inr ⟨g, cap, _, hrv, Nat.zero_le _, setRow_heap w g cur _ e (0, 0) hh, h1, h2, ?_, ?_⟩⟩
        · simp [hul]; omega
        · show (cur.toList.take (i * k + off) ++ us ++ cur.toList.drop (i * k + off + us.length)).take (l.length * k) = sp xs (i * k + off) us
          unfold sp
          rw [← h4, List.take_append, List.take_append, List.take_take, List.take_take, List.drop_take]
          have a1 : min (l.length * k) (i * k + off) = i * k + off := by omega
          have a2 : min (i * k + off) (l.length * k) = i * k + off := by omega
          have a3 : (cur.toList.take (i * k + off)).length = i * k + off := by simp; omega
          rw [a1, a2, List.length_append, a3, List.take_of_length_le (l := us) (by omega)]
      · simp only [Bool.and_eq_true] at hd
        obtain ⟨n1, n2⟩ := r6 hd.1
        obtain ⟨n3, n4⟩ := hdp hd.2
        have hap : ∀ b, b ∈ F2 ++ F3 → b ∈ G → False := by
          intro b hb hbG
          obtain ⟨_, q2, _⟩ := n2 b (t2 b hb)
          obtain ⟨_, _, r', q3, q4⟩ := n4 b hbG
          rw [q2] at q3
          injection q3 with q3
          subst q3
          exact q4 _ _ hr
        have hnd13 := t3 n1
        refine ⟨?_, fun b hb => ?_⟩
        · obtain ⟨m1, m2, m3⟩ := List.nodup_append.1 hnd13
          refine List.nodup_append.2 ⟨List.nodup_append.2 ⟨m1, n3, fun x hx y hy hxy => hap x (List.mem_append_left _ hx) (hxy ▸ hy)⟩, m2, fun x hx y hy hxy => ?_⟩
          rcases List.mem_append.1 hx with hx | hx
          · exact m3 x hx y hy hxy
          · exact hap x (List.mem_append_right _ (hxy ▸ hy)) hx
        · have hne := hokb b (hFF b hb)
          by_cases hbG : b ∈ G
          · obtain ⟨q1, q2, _⟩ := n4 b hbG
            exact ⟨q1, by simp [hd.2, hbG], by rw [hob]; intro e; injection e with e; exact hne e.symm, q2.keep (hother b hne)⟩
          · have hb13 : b ∈ F2 ++ F3 := by
              rcases List.mem_append.1 hb with hb | hb
              · rcases List.mem_append.1 hb with hb | hb
                · exact List.mem_append_left _ hb
                · exact absurd hb hbG
              · exact List.mem_append_right _ hb
            obtain ⟨q1, q2, q3, q4⟩ := n2 b (t2 b hb13)
            exact ⟨q1, by simp [hbG, q2], q3, q4.keep (hother b hne)⟩
end
end Go.V
