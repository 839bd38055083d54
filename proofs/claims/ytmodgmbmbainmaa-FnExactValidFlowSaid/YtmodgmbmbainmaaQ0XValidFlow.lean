/-
  Facts and plain laws: what the functions compute, in plain words. Conditions: as each says.
-/
import Derived.Test.YtmodgmbmbainmaaT0XValidFlow
set_option linter.unusedVariables false
set_option linter.unusedSimpArgs false
set_option maxRecDepth 100000
namespace Go.Proofs.Ytmodgmbmbainmaa
open Go.Ab Go.V
theorem sz_ByteS {l : den (.sl tb)} {left : Int} (w : Wf (.sl tb) l) (h0 : 0 ≤ left) (h1 : left ≤ 1048576) : SzT (l_szByteS l left) left (tot (.sl tb) l) := szF_ok (t := tb) rfl w.1 h0 h1

theorem sz_Message {x : den tMessage} {left : Int} (w : Wf tMessage x) (h0 : 0 ≤ left) (h1 : left ≤ 1048576) : SzT (l_szMessage x left) left (tot tMessage x) := SzT.eq (sz_field (sz_ByteS w h0 h1) h1 fun r0 a0 b0 => sz_done a0) (by simp [tot, tot_flat])

theorem sz_MessageS {l : den (.sl tMessage)} {left : Int} (w : Wf (.sl tMessage) l) (h0 : 0 ≤ left) (h1 : left ≤ 1048576) : SzT (l_szMessageS l left) left (tot (.sl tMessage) l) := szL_ok (t := tMessage) (szE := l_szMessage) w.1 h0 h1 fun x hx k k0 k1 => sz_Message (w.2 x hx) k0 k1

theorem sz_HopS {l : den (.sl tHop)} {left : Int} (w : Wf (.sl tHop) l) (h0 : 0 ≤ left) (h1 : left ≤ 1048576) : SzT (l_szHopS l left) left (tot (.sl tHop) l) := szF_ok (t := tHop) rfl w.1 h0 h1

theorem sz_PathPart {x : den tPathPart} {left : Int} (w : Wf tPathPart x) (h0 : 0 ≤ left) (h1 : left ≤ 1048576) : SzT (l_szPathPart x left) left (tot tPathPart x) := SzT.eq (sz_field (sz_HopS w.2.2.2 h0 h1) h1 fun r0 a0 b0 => sz_done a0) (by simp [tot, tot_flat])

theorem sz_PathPartS {l : den (.sl tPathPart)} {left : Int} (w : Wf (.sl tPathPart) l) (h0 : 0 ≤ left) (h1 : left ≤ 1048576) : SzT (l_szPathPartS l left) left (tot (.sl tPathPart) l) := szL_ok (t := tPathPart) (szE := l_szPathPart) w.1 h0 h1 fun x hx k k0 k1 => sz_PathPart (w.2 x hx) k0 k1

theorem sz_Path {x : den tPath} {left : Int} (w : Wf tPath x) (h0 : 0 ≤ left) (h1 : left ≤ 1048576) : SzT (l_szPath x left) left (tot tPath x) := SzT.eq (sz_field (sz_PathPartS w h0 h1) h1 fun r0 a0 b0 => sz_done a0) (by simp [tot, tot_flat])

theorem sz_PathS {l : den (.sl tPath)} {left : Int} (w : Wf (.sl tPath) l) (h0 : 0 ≤ left) (h1 : left ≤ 1048576) : SzT (l_szPathS l left) left (tot (.sl tPath) l) := szL_ok (t := tPath) (szE := l_szPath) w.1 h0 h1 fun x hx k k0 k1 => sz_Path (w.2 x hx) k0 k1

theorem sz_RevocationS {l : den (.sl tRevocation)} {left : Int} (w : Wf (.sl tRevocation) l) (h0 : 0 ≤ left) (h1 : left ≤ 1048576) : SzT (l_szRevocationS l left) left (tot (.sl tRevocation) l) := szF_ok (t := tRevocation) rfl w.1 h0 h1

theorem sz_Flow {x : den tFlow} {left : Int} (w : Wf tFlow x) (h0 : 0 ≤ left) (h1 : left ≤ 1048576) : SzT (l_szFlow x left) left (tot tFlow x) := SzT.eq (sz_field (sz_MessageS w.2.2.2.2.1 h0 h1) h1 fun r0 a0 b0 => sz_field (sz_PathS w.2.2.2.2.2.1 a0 b0) b0 fun r1 a1 b1 => sz_field (sz_RevocationS w.2.2.2.2.2.2.2.2 a1 b1) b1 fun r2 a2 b2 => sz_done a2) (by simp [tot, tot_flat] <;> omega)

theorem to_ByteS {l : den (.sl tb)} (h : Sm (.sl tb) l) : l_toByteS l = some l := by
  have : l_toByteS l = some (l.map id) := toL_eq (toE := some) (g := id) h.1 (by decide) fun x hx => rfl
  simpa using this

theorem to_Message {x : den tMessage} (h : Sm tMessage x) : l_toMessage x = some x := by
  unfold l_toMessage
  simp [to_ByteS h]

theorem to_MessageS {l : den (.sl tMessage)} (h : Sm (.sl tMessage) l) : l_toMessageS l = some l := by
  have : l_toMessageS l = some (l.map id) := toL_eq (toE := l_toMessage) (g := id) h.1 (by decide) fun x hx => to_Message (h.2 x hx)
  simpa using this

theorem to_Hop {x : den tHop} (h : Sm tHop x) : l_toHop x = some x := by
  unfold l_toHop
  rfl

theorem to_HopS {l : den (.sl tHop)} (h : Sm (.sl tHop) l) : l_toHopS l = some l := by
  have : l_toHopS l = some (l.map id) := toL_eq (toE := l_toHop) (g := id) h.1 (by decide) fun x hx => to_Hop (h.2 x hx)
  simpa using this

theorem to_PathPart {x : den tPathPart} (h : Sm tPathPart x) : l_toPathPart x = some x := by
  unfold l_toPathPart
  simp [to_HopS h.2.2.2]

theorem to_PathPartS {l : den (.sl tPathPart)} (h : Sm (.sl tPathPart) l) : l_toPathPartS l = some l := by
  have : l_toPathPartS l = some (l.map id) := toL_eq (toE := l_toPathPart) (g := id) h.1 (by decide) fun x hx => to_PathPart (h.2 x hx)
  simpa using this

theorem to_Path {x : den tPath} (h : Sm tPath x) : l_toPath x = some x := by
  unfold l_toPath
  simp [to_PathPartS h]

theorem to_PathS {l : den (.sl tPath)} (h : Sm (.sl tPath) l) : l_toPathS l = some l := by
  have : l_toPathS l = some (l.map id) := toL_eq (toE := l_toPath) (g := id) h.1 (by decide) fun x hx => to_Path (h.2 x hx)
  simpa using this

theorem to_Revocation {x : den tRevocation} (h : Sm tRevocation x) : l_toRevocation x = some x := by
  unfold l_toRevocation
  rfl

theorem to_RevocationS {l : den (.sl tRevocation)} (h : Sm (.sl tRevocation) l) : l_toRevocationS l = some l := by
  have : l_toRevocationS l = some (l.map id) := toL_eq (toE := l_toRevocation) (g := id) h.1 (by decide) fun x hx => to_Revocation (h.2 x hx)
  simpa using this

theorem to_Flow {x : den tFlow} (h : Sm tFlow x) : l_toFlow x = some (x.1, x.2.1, x.2.2.1, x.2.2.2.1, x.2.2.2.2.2.2.1, x.2.2.2.2.2.2.2.1, x.2.2.2.2.1, x.2.2.2.2.2.1, x.2.2.2.2.2.2.2.2) := by
  unfold l_toFlow
  simp only [to_MessageS h.2.2.2.2.1, to_PathS h.2.2.2.2.2.1, to_RevocationS h.2.2.2.2.2.2.2.2, obind_some, peta]

theorem eq_ByteS {l : den (.sl tb)} (h : SmB 4611686018427387904 (.sl tb) l) : l_eqByteS l l = some true := eqL_refl (eqE := (fun x y => some (x == y))) h.1 fun x hx => by simp

theorem eq_Message {x : den tMessage} (h : SmB 4611686018427387904 tMessage x) : l_eqMessage x x = some true := by
  unfold l_eqMessage
  simp [eq_ByteS h]

theorem eq_MessageS {l : den (.sl tMessage)} (h : SmB 4611686018427387904 (.sl tMessage) l) : l_eqMessageS l l = some true := eqL_refl (eqE := l_eqMessage) h.1 fun x hx => eq_Message (h.2 x hx)

theorem eq_Hop {x : den tHop} (h : SmB 4611686018427387904 tHop x) : l_eqHop x x = some true := by
  unfold l_eqHop
  simp

theorem eq_HopS {l : den (.sl tHop)} (h : SmB 4611686018427387904 (.sl tHop) l) : l_eqHopS l l = some true := eqL_refl (eqE := l_eqHop) h.1 fun x hx => eq_Hop (h.2 x hx)

theorem eq_PathPart {x : den tPathPart} (h : SmB 4611686018427387904 tPathPart x) : l_eqPathPart x x = some true := by
  unfold l_eqPathPart
  simp [eq_HopS h.2.2.2]

theorem eq_PathPartS {l : den (.sl tPathPart)} (h : SmB 4611686018427387904 (.sl tPathPart) l) : l_eqPathPartS l l = some true := eqL_refl (eqE := l_eqPathPart) h.1 fun x hx => eq_PathPart (h.2 x hx)

theorem eq_Path {x : den tPath} (h : SmB 4611686018427387904 tPath x) : l_eqPath x x = some true := by
  unfold l_eqPath
  simp [eq_PathPartS h]

theorem eq_PathS {l : den (.sl tPath)} (h : SmB 4611686018427387904 (.sl tPath) l) : l_eqPathS l l = some true := eqL_refl (eqE := l_eqPath) h.1 fun x hx => eq_Path (h.2 x hx)

theorem eq_Revocation {x : den tRevocation} (h : SmB 4611686018427387904 tRevocation x) : l_eqRevocation x x = some true := by
  unfold l_eqRevocation
  simp

theorem eq_RevocationS {l : den (.sl tRevocation)} (h : SmB 4611686018427387904 (.sl tRevocation) l) : l_eqRevocationS l l = some true := eqL_refl (eqE := l_eqRevocation) h.1 fun x hx => eq_Revocation (h.2 x hx)

theorem eq_Flow {x : den tFlow} (h : SmB 4611686018427387904 tFlow x) : l_eqFlow x x = some true := by
  unfold l_eqFlow
  simp [eq_MessageS h.2.2.2.2.1, eq_PathS h.2.2.2.2.2.1, eq_RevocationS h.2.2.2.2.2.2.2.2]

def inR (n a b : Int) : Bool := decide (a ≤ n) && decide (n ≤ b)

theorem i_in (n a b : Int) : i_InRange n a b = some (inR n a b) := by
  unfold i_InRange inR
  by_cases h : a ≤ n <;> simp [h]

theorem s_in (n a b : Int) : s_l1In n a b = some (inR n a b) := by
  unfold s_l1In inR
  by_cases h : a ≤ n <;> simp [h]

theorem s_max (a b : Int) : s_Max a b = some (if b > a then b else a) := by
  unfold s_Max
  by_cases h : b > a <;> simp [h]

def validV (x : den tRevocation) : Bool := inR x.1 0 7 && (inR x.2.1 1 6 && inR x.2.2 0 1000000)

theorem i_validV (x : den tRevocation) : i_ValidRevocation x = some (validV x) := by
  unfold i_ValidRevocation validV
  simp only [i_in, obind_some]
  cases inR x.1 0 7 <;> cases inR x.2.1 1 6 <;> cases inR x.2.2 0 1000000 <;> rfl

theorem s_validV (x : den tRevocation) : s_ValidRevocation x = some (validV x) := by
  unfold s_ValidRevocation validV
  simp only [s_in, obind_some]
  cases inR x.1 0 7 <;> cases inR x.2.1 1 6 <;> cases inR x.2.2 0 1000000 <;> rfl

/-- A loop that answers false at the first that fails. -/
theorem scanB {α S : Type} (p : Nat → α → Bool) : ∀ (l : List α) (k : Nat) (ρ : S), scanI (fun k x => if p k x then none else some ρ) k l = if (l.zipIdx k).all (fun x => p x.2 x.1) then none else some ρ
  | [], _, _ => rfl
  | x :: xs, k, ρ => by
    simp only [scanI, List.zipIdx_cons, List.all_cons]
    rcases Bool.eq_false_or_eq_true (p k x) with h | h
    · simp only [h, if_true, Bool.true_and]; exact scanB p xs (k + 1) ρ
    · simp [h]

theorem zip_all {α : Type} (p : α → Bool) : ∀ (l : List α) (k : Nat), (l.zipIdx k).all (fun x => p x.1) = l.all p
  | [], _ => rfl
  | x :: xs, k => by simp [List.zipIdx_cons, zip_all p xs]

theorem scanA {α S : Type} (p : α → Bool) (l : List α) (ρ : S) : scanI (fun _ x => if p x then none else some ρ) 0 l = if l.all p then none else some ρ := by
  rw [scanB (fun _ x => p x), zip_all p]

def validF (f : den tFlow) : Bool :=
  inR f.1 0 7 && (inR f.2.1 0 7 && (!(f.1 == f.2.1) && (inR f.2.2.1 0 100000 && (decide (f.2.2.2.2.1.length ≤ 20) && (inR f.2.2.2.1 0 (f.2.2.2.2.1.length : Int) && (decide (f.2.2.2.2.2.1.length ≤ 24) &&
    (f.2.2.2.2.1.all (fun m => decide (m.length ≤ 40)) && (f.2.2.2.2.2.2.2.2.all validV && ((f.2.2.2.2.2.2.1 == 0 || inR f.2.2.2.2.2.2.1 0 ((f.2.2.2.2.2.1.length : Int) - 1)) && (inR f.2.2.2.2.2.2.2.1 0 4 && decide (f.2.2.2.2.2.2.2.2.length ≤ 16)))))))))))

theorem i_validF {f : den tFlow} (h : SmB 68719476736 tFlow f) : i_ValidFlow f = some (validF f) := by
  have h1 := h.2.2.2.2.1.1
  have h2 := h.2.2.2.2.2.1.1
  have h3 := h.2.2.2.2.2.2.2.2.1
  unfold i_ValidFlow validF
  rw [loop_scan (l := f.2.2.2.2.1) (fun _ m => if decide (m.length ≤ 40) then none else some false) (by omega) (fun k m hi hd hw hx hk => by
    simp only [hd, hi, hw, cond_true, obind_some]
    by_cases hm : m.length ≤ 40
    · simp [hm, show ¬ ((m.length : Int) > 40) by omega]
    · simp [hm, show (m.length : Int) > 40 by omega]) (by simp)]
  rw [loop_scan (l := f.2.2.2.2.2.2.2.2) (fun _ x => if validV x then none else some false) (by omega) (fun k x hi hd hw hx hk => by
    simp only [hd, hi, hw, cond_true, obind_some, peta, i_validV]
    cases validV x <;> rfl) (by simp)]
  rw [scanA (fun m : List Int => decide (m.length ≤ 40)), scanA validV]
  have e1 : decide ((f.2.2.2.2.1.length : Int) > 20) = !decide (f.2.2.2.2.1.length ≤ 20) := by rw [Bool.eq_iff_iff]; simp; omega
  have e2 : decide ((f.2.2.2.2.2.1.length : Int) > 24) = !decide (f.2.2.2.2.2.1.length ≤ 24) := by rw [Bool.eq_iff_iff]; simp; omega
  have e3 : decide ((f.2.2.2.2.2.2.2.2.length : Int) ≤ 16) = decide (f.2.2.2.2.2.2.2.2.length ≤ 16) := by rw [Bool.eq_iff_iff]; simp; omega
  have e5 : wr ((f.2.2.2.2.2.1.length : Int) - 1) = (f.2.2.2.2.2.1.length : Int) - 1 := wrap_in (by omega) (by omega)
  rw [e5]
  simp only [i_in, obind_some, e1, e2, e3]
  cases inR f.1 0 7 <;> simp only [Bool.not_true, Bool.not_false, cond_true, cond_false, obind_some, Bool.false_and, Bool.true_and]
  cases inR f.2.1 0 7 <;> simp only [Bool.not_true, Bool.not_false, cond_true, cond_false, obind_some, Bool.false_and, Bool.true_and]
  cases f.1 == f.2.1 <;> simp only [Bool.not_true, Bool.not_false, cond_true, cond_false, obind_some, Bool.false_and, Bool.true_and]
  cases inR f.2.2.1 0 100000 <;> simp only [Bool.not_true, Bool.not_false, cond_true, cond_false, obind_some, Bool.false_and, Bool.true_and]
  cases decide (f.2.2.2.2.1.length ≤ 20) <;> simp only [Bool.not_true, Bool.not_false, cond_true, cond_false, obind_some, Bool.false_and, Bool.true_and]
  cases inR f.2.2.2.1 0 (f.2.2.2.2.1.length : Int) <;> simp only [Bool.not_true, Bool.not_false, cond_true, cond_false, obind_some, Bool.false_and, Bool.true_and]
  cases decide (f.2.2.2.2.2.1.length ≤ 24) <;> simp only [Bool.not_true, Bool.not_false, cond_true, cond_false, obind_some, Bool.false_and, Bool.true_and]
  cases f.2.2.2.2.1.all (fun m => decide (m.length ≤ 40)) <;> simp only [Bool.false_eq_true, if_true, if_false, obind_some, Sum.elim_inl, Sum.elim_inr, Bool.false_and, Bool.true_and]
  cases f.2.2.2.2.2.2.2.2.all validV <;> simp only [Bool.false_eq_true, if_true, if_false, obind_some, Sum.elim_inl, Sum.elim_inr, Bool.false_and, Bool.true_and]
  cases f.2.2.2.2.2.2.1 == 0 <;> cases inR f.2.2.2.2.2.2.1 0 ((f.2.2.2.2.2.1.length : Int) - 1) <;> cases inR f.2.2.2.2.2.2.2.1 0 4 <;> rfl

theorem s_validF {f : den tFlow} (h : SmB 68719476736 tFlow f) : s_ValidFlow f = some (validF f) := by
  have h1 := h.2.2.2.2.1.1
  have h2 := h.2.2.2.2.2.1.1
  have h3 := h.2.2.2.2.2.2.2.2.1
  unfold s_ValidFlow validF
  rw [loop_scan (l := f.2.2.2.2.1) (fun _ m => if decide (m.length ≤ 40) then none else some false) (by omega) (fun k m hi hd hw hx hk => by
    simp only [hd, hi, hw, cond_true, obind_some]
    by_cases hm : m.length ≤ 40
    · simp [hm, show ¬ ((m.length : Int) > 40) by omega]
    · simp [hm, show (m.length : Int) > 40 by omega]) (by simp)]
  rw [loop_scan (l := f.2.2.2.2.2.2.2.2) (fun _ x => if validV x then none else some false) (by omega) (fun k x hi hd hw hx hk => by
    simp only [hd, hi, hw, cond_true, obind_some, peta, s_validV]
    cases validV x <;> rfl) (by simp)]
  rw [scanA (fun m : List Int => decide (m.length ≤ 40)), scanA validV]
  have e1 : decide ((f.2.2.2.2.1.length : Int) > 20) = !decide (f.2.2.2.2.1.length ≤ 20) := by rw [Bool.eq_iff_iff]; simp; omega
  have e2 : decide ((f.2.2.2.2.2.1.length : Int) > 24) = !decide (f.2.2.2.2.2.1.length ≤ 24) := by rw [Bool.eq_iff_iff]; simp; omega
  have e3 : decide ((f.2.2.2.2.2.2.2.2.length : Int) > 16) = !decide (f.2.2.2.2.2.2.2.2.length ≤ 16) := by rw [Bool.eq_iff_iff]; simp; omega
  have e4 : inR f.2.2.2.2.2.2.1 0 (if ((f.2.2.2.2.2.1.length : Int) - 1) > 0 then ((f.2.2.2.2.2.1.length : Int) - 1) else 0) = (f.2.2.2.2.2.2.1 == 0 || inR f.2.2.2.2.2.2.1 0 ((f.2.2.2.2.2.1.length : Int) - 1)) := by
    have key : ∀ (c n : Int), 0 ≤ n → inR c 0 (if n - 1 > 0 then n - 1 else 0) = (c == 0 || inR c 0 (n - 1)) := fun c n hn => by
      unfold inR
      by_cases h1 : n - 1 > 0
      · rw [if_pos h1]
        by_cases h2 : c = 0
        · subst h2; simp; omega
        · simp [h2]
      · rw [if_neg h1]
        by_cases h2 : c = 0
        · subst h2; simp
        · rw [Bool.eq_iff_iff]; simp [h2]; omega
    exact key _ _ (by omega)
  have e5 : wr ((f.2.2.2.2.2.1.length : Int) - 1) = (f.2.2.2.2.2.1.length : Int) - 1 := wrap_in (by omega) (by omega)
  rw [e5]
  simp only [s_in, s_max, obind_some, e1, e2, e3, e4]
  cases inR f.1 0 7 <;> simp only [Bool.not_true, Bool.not_false, cond_true, cond_false, obind_some, Bool.false_and, Bool.true_and]
  cases inR f.2.1 0 7 <;> simp only [Bool.not_true, Bool.not_false, cond_true, cond_false, obind_some, Bool.false_and, Bool.true_and]
  cases f.1 == f.2.1 <;> simp only [Bool.not_true, Bool.not_false, cond_true, cond_false, obind_some, Bool.false_and, Bool.true_and]
  cases inR f.2.2.1 0 100000 <;> simp only [Bool.not_true, Bool.not_false, cond_true, cond_false, obind_some, Bool.false_and, Bool.true_and]
  cases decide (f.2.2.2.2.1.length ≤ 20) <;> simp only [Bool.not_true, Bool.not_false, cond_true, cond_false, obind_some, Bool.false_and, Bool.true_and]
  cases inR f.2.2.2.1 0 (f.2.2.2.2.1.length : Int) <;> simp only [Bool.not_true, Bool.not_false, cond_true, cond_false, obind_some, Bool.false_and, Bool.true_and]
  cases decide (f.2.2.2.2.2.1.length ≤ 24) <;> simp only [Bool.not_true, Bool.not_false, cond_true, cond_false, obind_some, Bool.false_and, Bool.true_and]
  cases f.2.2.2.2.2.2.1 == 0 || inR f.2.2.2.2.2.2.1 0 ((f.2.2.2.2.2.1.length : Int) - 1) <;> cases inR f.2.2.2.2.2.2.2.1 0 4 <;> cases decide (f.2.2.2.2.2.2.2.2.length ≤ 16) <;> cases f.2.2.2.2.1.all (fun m => decide (m.length ≤ 40)) <;> cases f.2.2.2.2.2.2.2.2.all validV <;> rfl

end Go.Proofs.Ytmodgmbmbainmaa
