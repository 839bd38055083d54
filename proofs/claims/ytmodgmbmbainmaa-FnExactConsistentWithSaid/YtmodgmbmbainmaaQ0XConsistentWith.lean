/-
  Facts and plain laws: what the functions compute, in plain words. Conditions: as each says.
-/
import Derived.Test.YtmodgmbmbainmaaT0XConsistentWith
set_option linter.unusedVariables false
set_option linter.unusedSimpArgs false
set_option maxRecDepth 100000
namespace Go.Proofs.Ytmodgmbmbainmaa
open Go.Ab Go.V
theorem sz_ByteS {l : den (.sl tb)} {left : Int} (w : Wf (.sl tb) l) (h0 : 0 ≤ left) (h1 : left ≤ 1048576) : SzT (l_szByteS l left) left (tot (.sl tb) l) := szF_ok (t := tb) rfl w.1 h0 h1

theorem sz_Message {x : den tMessage} {left : Int} (w : Wf tMessage x) (h0 : 0 ≤ left) (h1 : left ≤ 1048576) : SzT (l_szMessage x left) left (tot tMessage x) := SzT.eq (sz_field (sz_ByteS w h0 h1) h1 fun r0 a0 b0 => sz_done a0) (by simp [tot, tot_flat])

theorem sz_MessageS {l : den (.sl tMessage)} {left : Int} (w : Wf (.sl tMessage) l) (h0 : 0 ≤ left) (h1 : left ≤ 1048576) : SzT (l_szMessageS l left) left (tot (.sl tMessage) l) := szL_ok (t := tMessage) (szE := l_szMessage) w.1 h0 h1 fun x hx k k0 k1 => sz_Message (w.2 x hx) k0 k1

theorem sz_HopS {l : den (.sl tHop)} {left : Int} (w : Wf (.sl tHop) l) (h0 : 0 ≤ left) (h1 : left ≤ 1048576) : SzT (l_szHopS l left) left (tot (.sl tHop) l) := szF_ok (t := tHop) rfl w.1 h0 h1

theorem sz_PathPart {x : den tPathPart} {left : Int} (w : Wf tPathPart x) (h0 : 0 ≤ left) (h1 : left ≤ 1048576) : SzT (l_szPathPart x left) left (tot tPathPart x) := SzT.eq (sz_field (sz_HopS w.2.2.2 h0 h1) h1 fun r0 a0 b0 => sz_done a0) (by simp [tot, tot_flat])

theorem sz_PathPartS {l : den (.sl tPathPart)} {left : Int} (w : Wf (.sl tPathPart) l) (h0 : 0 ≤ left) (h1 : left ≤ 1048576) : SzT (l_szPathPartS l left) left (tot (.sl tPathPart) l) := szL_ok (t := tPathPart) (szE := l_szPathPart) w.1 h0 h1 fun x hx k k0 k1 => sz_PathPart (w.2 x hx) k0 k1

theorem sz_Path {x : den tPath} {left : Int} (w : Wf tPath x) (h0 : 0 ≤ left) (h1 : left ≤ 1048576) : SzT (l_szPath x left) left (tot tPath x) := SzT.eq (sz_field (sz_PathPartS w h0 h1) h1 fun r0 a0 b0 => sz_done a0) (by simp [tot, tot_flat])

theorem sz_PathS {l : den (.sl tPath)} {left : Int} (w : Wf (.sl tPath) l) (h0 : 0 ≤ left) (h1 : left ≤ 1048576) : SzT (l_szPathS l left) left (tot (.sl tPath) l) := szL_ok (t := tPath) (szE := l_szPath) w.1 h0 h1 fun x hx k k0 k1 => sz_Path (w.2 x hx) k0 k1

theorem sz_RevocationS {l : den (.sl tRevocation)} {left : Int} (w : Wf (.sl tRevocation) l) (h0 : 0 ≤ left) (h1 : left ≤ 1048576) : SzT (l_szRevocationS l left) left (tot (.sl tRevocation) l) := szF_ok (t := tRevocation) rfl w.1 h0 h1

theorem sz_Flow {x : den tFlow} {left : Int} (w : Wf tFlow x) (h0 : 0 ≤ left) (h1 : left ≤ 1048576) : SzT (l_szFlow x left) left (tot tFlow x) := SzT.eq (sz_field (sz_MessageS w.2.2.2.2.1 h0 h1) h1 fun r0 a0 b0 => sz_field (sz_PathS w.2.2.2.2.2.1 a0 b0) b0 fun r1 a1 b1 => sz_field (sz_RevocationS w.2.2.2.2.2.2.2.2 a1 b1) b1 fun r2 a2 b2 => sz_done a2) (by simp [tot, tot_flat] <;> omega)

theorem sz_Inbox {x : den tInbox} {left : Int} (w : Wf tInbox x) (h0 : 0 ≤ left) (h1 : left ≤ 1048576) : SzT (l_szInbox x left) left (tot tInbox x) := SzT.eq (sz_field (sz_MessageS w.2.2.2 h0 h1) h1 fun r0 a0 b0 => sz_done a0) (by simp [tot, tot_flat])

theorem to_ByteS {l : den (.sl tb)} (h : Sm (.sl tb) l) : l_toByteS l = some l := by
  have : l_toByteS l = some (l.map id) := toL_eq (toE := some) (g := id) h.1 (by decide) fun x hx => rfl
  simpa using this

theorem to_Message {x : den tMessage} (h : Sm tMessage x) : l_toMessage x = some x := by
  unfold l_toMessage
  simp [to_ByteS h]

theorem to_MessageS {l : den (.sl tMessage)} (h : Sm (.sl tMessage) l) : l_toMessageS l = some l := by
  have : l_toMessageS l = some (l.map id) := toL_eq (toE := l_toMessage) (g := id) h.1 (by decide) fun x hx => to_Message (h.2 x hx)
  simpa using this

theorem to_Hop {x : den tHop} (h : Sm tHop x) : l_toHop x = some x := by
  unfold l_toHop
  rfl

theorem to_HopS {l : den (.sl tHop)} (h : Sm (.sl tHop) l) : l_toHopS l = some l := by
  have : l_toHopS l = some (l.map id) := toL_eq (toE := l_toHop) (g := id) h.1 (by decide) fun x hx => to_Hop (h.2 x hx)
  simpa using this

theorem to_PathPart {x : den tPathPart} (h : Sm tPathPart x) : l_toPathPart x = some x := by
  unfold l_toPathPart
  simp [to_HopS h.2.2.2]

theorem to_PathPartS {l : den (.sl tPathPart)} (h : Sm (.sl tPathPart) l) : l_toPathPartS l = some l := by
  have : l_toPathPartS l = some (l.map id) := toL_eq (toE := l_toPathPart) (g := id) h.1 (by decide) fun x hx => to_PathPart (h.2 x hx)
  simpa using this

theorem to_Path {x : den tPath} (h : Sm tPath x) : l_toPath x = some x := by
  unfold l_toPath
  simp [to_PathPartS h]

theorem to_PathS {l : den (.sl tPath)} (h : Sm (.sl tPath) l) : l_toPathS l = some l := by
  have : l_toPathS l = some (l.map id) := toL_eq (toE := l_toPath) (g := id) h.1 (by decide) fun x hx => to_Path (h.2 x hx)
  simpa using this

theorem to_Revocation {x : den tRevocation} (h : Sm tRevocation x) : l_toRevocation x = some x := by
  unfold l_toRevocation
  rfl

theorem to_RevocationS {l : den (.sl tRevocation)} (h : Sm (.sl tRevocation) l) : l_toRevocationS l = some l := by
  have : l_toRevocationS l = some (l.map id) := toL_eq (toE := l_toRevocation) (g := id) h.1 (by decide) fun x hx => to_Revocation (h.2 x hx)
  simpa using this

theorem to_Flow {x : den tFlow} (h : Sm tFlow x) : l_toFlow x = some (x.1, x.2.1, x.2.2.1, x.2.2.2.1, x.2.2.2.2.2.2.1, x.2.2.2.2.2.2.2.1, x.2.2.2.2.1, x.2.2.2.2.2.1, x.2.2.2.2.2.2.2.2) := by
  unfold l_toFlow
  simp only [to_MessageS h.2.2.2.2.1, to_PathS h.2.2.2.2.2.1, to_RevocationS h.2.2.2.2.2.2.2.2, obind_some, peta]

theorem to_Inbox {x : den tInbox} (h : Sm tInbox x) : l_toInbox x = some x := by
  unfold l_toInbox
  simp [to_MessageS h.2.2.2]

theorem eq_ByteS {l : den (.sl tb)} (h : SmB 4611686018427387904 (.sl tb) l) : l_eqByteS l l = some true := eqL_refl (eqE := (fun x y => some (x == y))) h.1 fun x hx => by simp

theorem eq_Message {x : den tMessage} (h : SmB 4611686018427387904 tMessage x) : l_eqMessage x x = some true := by
  unfold l_eqMessage
  simp [eq_ByteS h]

theorem eq_MessageS {l : den (.sl tMessage)} (h : SmB 4611686018427387904 (.sl tMessage) l) : l_eqMessageS l l = some true := eqL_refl (eqE := l_eqMessage) h.1 fun x hx => eq_Message (h.2 x hx)

theorem eq_Hop {x : den tHop} (h : SmB 4611686018427387904 tHop x) : l_eqHop x x = some true := by
  unfold l_eqHop
  simp

theorem eq_HopS {l : den (.sl tHop)} (h : SmB 4611686018427387904 (.sl tHop) l) : l_eqHopS l l = some true := eqL_refl (eqE := l_eqHop) h.1 fun x hx => eq_Hop (h.2 x hx)

theorem eq_PathPart {x : den tPathPart} (h : SmB 4611686018427387904 tPathPart x) : l_eqPathPart x x = some true := by
  unfold l_eqPathPart
  simp [eq_HopS h.2.2.2]

theorem eq_PathPartS {l : den (.sl tPathPart)} (h : SmB 4611686018427387904 (.sl tPathPart) l) : l_eqPathPartS l l = some true := eqL_refl (eqE := l_eqPathPart) h.1 fun x hx => eq_PathPart (h.2 x hx)

theorem eq_Path {x : den tPath} (h : SmB 4611686018427387904 tPath x) : l_eqPath x x = some true := by
  unfold l_eqPath
  simp [eq_PathPartS h]

theorem eq_PathS {l : den (.sl tPath)} (h : SmB 4611686018427387904 (.sl tPath) l) : l_eqPathS l l = some true := eqL_refl (eqE := l_eqPath) h.1 fun x hx => eq_Path (h.2 x hx)

theorem eq_Revocation {x : den tRevocation} (h : SmB 4611686018427387904 tRevocation x) : l_eqRevocation x x = some true := by
  unfold l_eqRevocation
  simp

theorem eq_RevocationS {l : den (.sl tRevocation)} (h : SmB 4611686018427387904 (.sl tRevocation) l) : l_eqRevocationS l l = some true := eqL_refl (eqE := l_eqRevocation) h.1 fun x hx => eq_Revocation (h.2 x hx)

theorem eq_Flow {x : den tFlow} (h : SmB 4611686018427387904 tFlow x) : l_eqFlow x x = some true := by
  unfold l_eqFlow
  simp [eq_MessageS h.2.2.2.2.1, eq_PathS h.2.2.2.2.2.1, eq_RevocationS h.2.2.2.2.2.2.2.2]

theorem eq_Inbox {x : den tInbox} (h : SmB 4611686018427387904 tInbox x) : l_eqInbox x x = some true := by
  unfold l_eqInbox
  simp [eq_MessageS h.2.2.2]

def sameB (a b : List Int) : Bool := (strOf a).toList == (strOf b).toList

theorem i_sameB (a b : List Int) : i_EqualBytes a b = some (sameB a b) := rfl

theorem s_sameB (a b : List Int) : s_EqualBytes a b = some (sameB a b) := rfl

def sameMs : List (den tMessage) → List (den tMessage) → Bool
  | [], _ => true
  | _ :: _, [] => true
  | a :: as, b :: bs => sameB a b && sameMs as bs

/-- Does the element at the same place of another list fail? -/
def pairB {α S : Type} (p : α → α → Bool) (l : List α) (ρ : S) (k : Nat) (x : α) : Option S := Option.elim l[k]? none fun y => if p x y then none else some ρ

/-- Two lists are gone through together. -/
theorem scan2 {α S : Type} (p : α → α → Bool) (q : List α → List α → Bool) (h0 : ∀ b, q [] b = true) (h1 : ∀ x a y b, q (x :: a) (y :: b) = (p x y && q a b)) (ρ : S) : ∀ (a b : List α), a.length ≤ b.length → ∀ (k : Nat) (l : List α), (∀ j, b[j]? = l[k + j]?) → scanI (pairB p l ρ) k a = if q a b then none else some ρ
  | [], b, _, k, l, _ => by rw [h0]; rfl
  | x :: a, [], h, _, _, _ => by simp at h
  | x :: a, y :: b, h, k, l, hl => by
    have e0 := hl 0
    simp only [Nat.add_zero, List.getElem?_cons_zero] at e0
    simp only [scanI, pairB, ← e0, h1, Option.elim_some]
    rcases Bool.eq_false_or_eq_true (p x y) with hp | hp
    · simp only [hp, if_true, Bool.true_and]
      exact scan2 p q h0 h1 ρ a b (by simpa using h) (k + 1) l fun j => by
        have := hl (j + 1)
        rw [List.getElem?_cons_succ] at this
        rw [this]; congr 1; omega
    · simp [hp]

theorem i_sameMs {a b : List (den tMessage)} (ha : a.length ≤ 68719476736) (hb : b.length ≤ 68719476736) : i_equalMessages a b = some (decide (a.length = b.length) && sameMs a b) := by
  unfold i_equalMessages
  by_cases hl : a.length = b.length
  · have h0 : ((a.length : Int) != (b.length : Int)) = false := by simp [hl]
    rw [h0, cond_false, loop_scan (l := a) (pairB sameB b false) (by omega) (fun k x hi hd hw hx hk => by
        have hy : b[k]? = some b[k] := List.getElem?_eq_getElem (by omega)
        simp only [hd, hi, hw, cond_true, obind_some, idx_nat, hy, i_sameB, pairB, Option.elim_some]
        cases sameB x b[k] <;> rfl) (by simp)]
    rw [scan2 sameB sameMs (fun b => by cases b <;> rfl) (fun _ _ _ _ => rfl) false a b (by omega) 0 b (fun j => by rw [Nat.zero_add])]
    cases sameMs a b <;> simp [hl]
  · have h0 : ((a.length : Int) != (b.length : Int)) = true := by simp; omega
    rw [h0, cond_true]; simp [hl]

def consist (f : den tFlow) (x : den tInbox) : Bool :=
  x.1 == f.2.1 && (x.2.1 == f.1 && (decide (x.2.2.2.length ≤ f.2.2.2.2.1.length) && (sameMs x.2.2.2 f.2.2.2.2.1 && decide ((x.2.2.2.length : Int) ≥ f.2.2.2.1))))

theorem sameMs_take : ∀ (a b : List (den tMessage)), sameMs a (b.take a.length) = sameMs a b
  | [], b => by cases b <;> rfl
  | x :: a, [] => rfl
  | x :: a, y :: b => by simp [sameMs, sameMs_take a b]

theorem i_consist {f : den tFlow} {x : den tInbox} (hf : f.2.2.2.2.1.length ≤ 68719476736) (hx : x.2.2.2.length ≤ 68719476736) : i_ConsistentWith f x = some (consist f x) := by
  unfold i_ConsistentWith consist
  cases x.1 == f.2.1
  · rfl
  cases x.2.1 == f.1
  · rfl
  by_cases hl : x.2.2.2.length ≤ f.2.2.2.2.1.length
  · have h1 : decide ((x.2.2.2.length : Int) ≤ (f.2.2.2.2.1.length : Int)) = true := by simpa using hl
    have h2 : slOk (0 : Int) (x.2.2.2.length : Int) (f.2.2.2.2.1.length : Int) = true := by simp [slOk]; omega
    rw [h1, h2, cut_take, i_sameMs hx (by rw [List.length_take]; omega), sameMs_take]
    have h3 : decide (x.2.2.2.length = (List.take x.2.2.2.length f.2.2.2.2.1).length) = true := by simp [List.length_take]; omega
    rw [h3]
    simp only [cond_true, obind_some, Bool.true_and, decide_eq_true hl]
    cases sameMs x.2.2.2 f.2.2.2.2.1 <;> rfl
  · have h1 : decide ((x.2.2.2.length : Int) ≤ (f.2.2.2.2.1.length : Int)) = false := by simp; omega
    rw [h1]
    simp [hl]

theorem s_consist {f : den tFlow} {x : den tInbox} (hf : f.2.2.2.2.1.length ≤ 68719476736) (hx : x.2.2.2.length ≤ 68719476736) : s_ConsistentWith f x = some (consist f x) := by
  unfold s_ConsistentWith consist
  simp only [bne]
  cases x.1 == f.2.1
  · rfl
  cases x.2.1 == f.1
  · rfl
  by_cases hl : x.2.2.2.length ≤ f.2.2.2.2.1.length
  · have h1 : decide ((x.2.2.2.length : Int) > (f.2.2.2.2.1.length : Int)) = false := by simp; omega
    have h4 : decide ((x.2.2.2.length : Int) < f.2.2.2.1) = !decide ((x.2.2.2.length : Int) ≥ f.2.2.2.1) := by rw [Bool.eq_iff_iff]; simp
    rw [h1, h4, loop_scan (l := x.2.2.2) (pairB sameB f.2.2.2.2.1 false) (by omega) (fun k m hi hd hw hm hk => by
        have hy : f.2.2.2.2.1[k]? = some f.2.2.2.2.1[k] := List.getElem?_eq_getElem (by omega)
        simp only [hd, hi, hw, cond_true, obind_some, idx_nat, hy, s_sameB, pairB, Option.elim_some]
        cases sameB m f.2.2.2.2.1[k] <;> rfl) (by simp)]
    rw [scan2 sameB sameMs (fun b => by cases b <;> rfl) (fun _ _ _ _ => rfl) false x.2.2.2 f.2.2.2.2.1 hl 0 f.2.2.2.2.1 (fun j => by rw [Nat.zero_add])]
    rw [decide_eq_true hl]
    cases decide ((x.2.2.2.length : Int) ≥ f.2.2.2.1) <;> cases sameMs x.2.2.2 f.2.2.2.2.1 <;> rfl
  · have h1 : decide ((x.2.2.2.length : Int) > (f.2.2.2.2.1.length : Int)) = true := by simp; omega
    rw [h1]
    simp [hl]

end Go.Proofs.Ytmodgmbmbainmaa
