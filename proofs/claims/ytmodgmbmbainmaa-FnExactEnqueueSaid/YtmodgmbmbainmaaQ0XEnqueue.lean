/-
  Facts and plain laws: what the functions compute, in plain words. Conditions: as each says.
-/
import Derived.Test.YtmodgmbmbainmaaT0XEnqueue
set_option linter.unusedVariables false
set_option linter.unusedSimpArgs false
set_option maxRecDepth 100000
namespace Go.Proofs.Ytmodgmbmbainmaa
open Go.Ab Go.V
theorem sz_ByteS {l : den (.sl tb)} {left : Int} (w : Wf (.sl tb) l) (h0 : 0 ≤ left) (h1 : left ≤ 1048576) : SzT (l_szByteS l left) left (tot (.sl tb) l) := szF_ok (t := tb) rfl w.1 h0 h1

theorem sz_Message {x : den tMessage} {left : Int} (w : Wf tMessage x) (h0 : 0 ≤ left) (h1 : left ≤ 1048576) : SzT (l_szMessage x left) left (tot tMessage x) := SzT.eq (sz_field (sz_ByteS w h0 h1) h1 fun r0 a0 b0 => sz_done a0) (by simp [tot, tot_flat])

theorem sz_MessageS {l : den (.sl tMessage)} {left : Int} (w : Wf (.sl tMessage) l) (h0 : 0 ≤ left) (h1 : left ≤ 1048576) : SzT (l_szMessageS l left) left (tot (.sl tMessage) l) := szL_ok (t := tMessage) (szE := l_szMessage) w.1 h0 h1 fun x hx k k0 k1 => sz_Message (w.2 x hx) k0 k1

theorem sz_HopS {l : den (.sl tHop)} {left : Int} (w : Wf (.sl tHop) l) (h0 : 0 ≤ left) (h1 : left ≤ 1048576) : SzT (l_szHopS l left) left (tot (.sl tHop) l) := szF_ok (t := tHop) rfl w.1 h0 h1

theorem sz_PathPart {x : den tPathPart} {left : Int} (w : Wf tPathPart x) (h0 : 0 ≤ left) (h1 : left ≤ 1048576) : SzT (l_szPathPart x left) left (tot tPathPart x) := SzT.eq (sz_field (sz_HopS w.2.2.2 h0 h1) h1 fun r0 a0 b0 => sz_done a0) (by simp [tot, tot_flat])

theorem sz_PathPartS {l : den (.sl tPathPart)} {left : Int} (w : Wf (.sl tPathPart) l) (h0 : 0 ≤ left) (h1 : left ≤ 1048576) : SzT (l_szPathPartS l left) left (tot (.sl tPathPart) l) := szL_ok (t := tPathPart) (szE := l_szPathPart) w.1 h0 h1 fun x hx k k0 k1 => sz_PathPart (w.2 x hx) k0 k1

theorem sz_Path {x : den tPath} {left : Int} (w : Wf tPath x) (h0 : 0 ≤ left) (h1 : left ≤ 1048576) : SzT (l_szPath x left) left (tot tPath x) := SzT.eq (sz_field (sz_PathPartS w h0 h1) h1 fun r0 a0 b0 => sz_done a0) (by simp [tot, tot_flat])

theorem sz_PathS {l : den (.sl tPath)} {left : Int} (w : Wf (.sl tPath) l) (h0 : 0 ≤ left) (h1 : left ≤ 1048576) : SzT (l_szPathS l left) left (tot (.sl tPath) l) := szL_ok (t := tPath) (szE := l_szPath) w.1 h0 h1 fun x hx k k0 k1 => sz_Path (w.2 x hx) k0 k1

theorem sz_RevocationS {l : den (.sl tRevocation)} {left : Int} (w : Wf (.sl tRevocation) l) (h0 : 0 ≤ left) (h1 : left ≤ 1048576) : SzT (l_szRevocationS l left) left (tot (.sl tRevocation) l) := szF_ok (t := tRevocation) rfl w.1 h0 h1

theorem sz_Flow {x : den tFlow} {left : Int} (w : Wf tFlow x) (h0 : 0 ≤ left) (h1 : left ≤ 1048576) : SzT (l_szFlow x left) left (tot tFlow x) := SzT.eq (sz_field (sz_MessageS w.2.2.2.2.1 h0 h1) h1 fun r0 a0 b0 => sz_field (sz_PathS w.2.2.2.2.2.1 a0 b0) b0 fun r1 a1 b1 => sz_field (sz_RevocationS w.2.2.2.2.2.2.2.2 a1 b1) b1 fun r2 a2 b2 => sz_done a2) (by simp [tot, tot_flat] <;> omega)

theorem to_ByteS {l : den (.sl tb)} (h : Sm (.sl tb) l) : l_toByteS l = some l := by
  have : l_toByteS l = some (l.map id) := toL_eq (toE := some) (g := id) h.1 (by decide) fun x hx => rfl
  simpa using this

theorem to_Message {x : den tMessage} (h : Sm tMessage x) : l_toMessage x = some x := by
  unfold l_toMessage
  simp [to_ByteS h]

theorem to_MessageS {l : den (.sl tMessage)} (h : Sm (.sl tMessage) l) : l_toMessageS l = some l := by
  have : l_toMessageS l = some (l.map id) := toL_eq (toE := l_toMessage) (g := id) h.1 (by decide) fun x hx => to_Message (h.2 x hx)
  simpa using this

theorem to_Hop {x : den tHop} (h : Sm tHop x) : l_toHop x = some x := by
  unfold l_toHop
  rfl

theorem to_HopS {l : den (.sl tHop)} (h : Sm (.sl tHop) l) : l_toHopS l = some l := by
  have : l_toHopS l = some (l.map id) := toL_eq (toE := l_toHop) (g := id) h.1 (by decide) fun x hx => to_Hop (h.2 x hx)
  simpa using this

theorem to_PathPart {x : den tPathPart} (h : Sm tPathPart x) : l_toPathPart x = some x := by
  unfold l_toPathPart
  simp [to_HopS h.2.2.2]

theorem to_PathPartS {l : den (.sl tPathPart)} (h : Sm (.sl tPathPart) l) : l_toPathPartS l = some l := by
  have : l_toPathPartS l = some (l.map id) := toL_eq (toE := l_toPathPart) (g := id) h.1 (by decide) fun x hx => to_PathPart (h.2 x hx)
  simpa using this

theorem to_Path {x : den tPath} (h : Sm tPath x) : l_toPath x = some x := by
  unfold l_toPath
  simp [to_PathPartS h]

theorem to_PathS {l : den (.sl tPath)} (h : Sm (.sl tPath) l) : l_toPathS l = some l := by
  have : l_toPathS l = some (l.map id) := toL_eq (toE := l_toPath) (g := id) h.1 (by decide) fun x hx => to_Path (h.2 x hx)
  simpa using this

theorem to_Revocation {x : den tRevocation} (h : Sm tRevocation x) : l_toRevocation x = some x := by
  unfold l_toRevocation
  rfl

theorem to_RevocationS {l : den (.sl tRevocation)} (h : Sm (.sl tRevocation) l) : l_toRevocationS l = some l := by
  have : l_toRevocationS l = some (l.map id) := toL_eq (toE := l_toRevocation) (g := id) h.1 (by decide) fun x hx => to_Revocation (h.2 x hx)
  simpa using this

theorem to_Flow {x : den tFlow} (h : Sm tFlow x) : l_toFlow x = some (x.1, x.2.1, x.2.2.1, x.2.2.2.1, x.2.2.2.2.2.2.1, x.2.2.2.2.2.2.2.1, x.2.2.2.2.1, x.2.2.2.2.2.1, x.2.2.2.2.2.2.2.2) := by
  unfold l_toFlow
  simp only [to_MessageS h.2.2.2.2.1, to_PathS h.2.2.2.2.2.1, to_RevocationS h.2.2.2.2.2.2.2.2, obind_some, peta]

theorem eq_ByteS {l : den (.sl tb)} (h : SmB 4611686018427387904 (.sl tb) l) : l_eqByteS l l = some true := eqL_refl (eqE := (fun x y => some (x == y))) h.1 fun x hx => by simp

theorem eq_Message {x : den tMessage} (h : SmB 4611686018427387904 tMessage x) : l_eqMessage x x = some true := by
  unfold l_eqMessage
  simp [eq_ByteS h]

theorem eq_MessageS {l : den (.sl tMessage)} (h : SmB 4611686018427387904 (.sl tMessage) l) : l_eqMessageS l l = some true := eqL_refl (eqE := l_eqMessage) h.1 fun x hx => eq_Message (h.2 x hx)

theorem eq_Hop {x : den tHop} (h : SmB 4611686018427387904 tHop x) : l_eqHop x x = some true := by
  unfold l_eqHop
  simp

theorem eq_HopS {l : den (.sl tHop)} (h : SmB 4611686018427387904 (.sl tHop) l) : l_eqHopS l l = some true := eqL_refl (eqE := l_eqHop) h.1 fun x hx => eq_Hop (h.2 x hx)

theorem eq_PathPart {x : den tPathPart} (h : SmB 4611686018427387904 tPathPart x) : l_eqPathPart x x = some true := by
  unfold l_eqPathPart
  simp [eq_HopS h.2.2.2]

theorem eq_PathPartS {l : den (.sl tPathPart)} (h : SmB 4611686018427387904 (.sl tPathPart) l) : l_eqPathPartS l l = some true := eqL_refl (eqE := l_eqPathPart) h.1 fun x hx => eq_PathPart (h.2 x hx)

theorem eq_Path {x : den tPath} (h : SmB 4611686018427387904 tPath x) : l_eqPath x x = some true := by
  unfold l_eqPath
  simp [eq_PathPartS h]

theorem eq_PathS {l : den (.sl tPath)} (h : SmB 4611686018427387904 (.sl tPath) l) : l_eqPathS l l = some true := eqL_refl (eqE := l_eqPath) h.1 fun x hx => eq_Path (h.2 x hx)

theorem eq_Revocation {x : den tRevocation} (h : SmB 4611686018427387904 tRevocation x) : l_eqRevocation x x = some true := by
  unfold l_eqRevocation
  simp

theorem eq_RevocationS {l : den (.sl tRevocation)} (h : SmB 4611686018427387904 (.sl tRevocation) l) : l_eqRevocationS l l = some true := eqL_refl (eqE := l_eqRevocation) h.1 fun x hx => eq_Revocation (h.2 x hx)

theorem eq_Flow {x : den tFlow} (h : SmB 4611686018427387904 tFlow x) : l_eqFlow x x = some true := by
  unfold l_eqFlow
  simp [eq_MessageS h.2.2.2.2.1, eq_PathS h.2.2.2.2.2.1, eq_RevocationS h.2.2.2.2.2.2.2.2]

theorem mark_ByteS {l : den (.sl tb)} {k : Int} (h : SmB 4611686018427387904 (.sl tb) l) (hk : 0 ≤ k) (hb : k + ((lv (.sl tb) l : Nat) : Int) ≤ 4611686018427387904) : l_markByteS l k = some (k + ((lv (.sl tb) l : Nat) : Int), mkT (.sl tb) l k) := by
  have hc := cntAll_sum (lv tb) l
  have hc : k + ((cntAll (lv tb) l : Nat) : Int) = k + ((lv (.sl tb) l : Nat) : Int) := by rw [hc]; rfl
  unfold l_markByteS
  rw [mark0 (cE := lv tb) (mE := mkT tb) (SmB 4611686018427387904 tb) (fun k i L x hx hi hN hk hb hp => by
      have hd : decide ((i : Int) < (L.length : Int)) = true := by simpa using hi
      have hd0 : decide ((0 : Int) ≤ (i : Int)) = true := by simp
      have hw : IntKind.i64.wrap ((i : Int) + 1) = ((i + 1 : Nat) : Int) := by rw [wrap_in (by omega) (by omega)]; omega
      have hl : k + ((lv tb x : Nat) : Int) = k + 1 := by simp only [lv] <;> omega
      rw [hl] at hb
      rw [hl]
      have hE : mkT tb x k = IntKind.u8.wrap (k) := by first | rfl | (simp [mkT, lv]; try omega)
      have f0 : IntKind.i64.wrap (k + 1) = k + 1 := wrap_in (by omega) (by omega)
      rw [hE]
      simp only [hd, hd0, hw, cond_true, Int.toNat_natCast, hx, obind_some, List.length_set, List.getElem?_set_self hi, List.set_set, f0]) (fun k L => by simp) h.1 h.2 hk (by rw [hc]; exact hb), hc]
  rfl

theorem mark_MessageS {l : den (.sl tMessage)} {k : Int} (h : SmB 4611686018427387904 (.sl tMessage) l) (hk : 0 ≤ k) (hb : k + ((lv (.sl tMessage) l : Nat) : Int) ≤ 4611686018427387904) : l_markMessageS l k = some (k + ((lv (.sl tMessage) l : Nat) : Int), mkT (.sl tMessage) l k) := by
  have hc := cntAll_sum (lv tMessage) l
  have hc : k + ((cntAll (lv tMessage) l : Nat) : Int) = k + ((lv (.sl tMessage) l : Nat) : Int) := by rw [hc]; rfl
  unfold l_markMessageS
  rw [mark0 (cE := lv tMessage) (mE := mkT tMessage) (SmB 4611686018427387904 tMessage) (fun k i L x hx hi hN hk hb hp => by
      have hd : decide ((i : Int) < (L.length : Int)) = true := by simpa using hi
      have hd0 : decide ((0 : Int) ≤ (i : Int)) = true := by simp
      have hw : IntKind.i64.wrap ((i : Int) + 1) = ((i + 1 : Nat) : Int) := by rw [wrap_in (by omega) (by omega)]; omega
      have hl : k + ((lv tMessage x : Nat) : Int) = k + ((lv (.sl tb) x : Nat) : Int) := by simp only [lv] <;> omega
      rw [hl] at hb
      rw [hl]
      have hE : mkT tMessage x k = mkT (.sl tb) x (k) := by first | rfl | (simp [mkT, lv]; try omega)
      have f0 := mark_ByteS (l := x) (k := k) hp (by omega) (by omega)
      rw [hE]
      simp only [hd, hd0, hw, cond_true, Int.toNat_natCast, hx, obind_some, List.length_set, List.getElem?_set_self hi, List.set_set, f0]) (fun k L => by simp) h.1 h.2 hk (by rw [hc]; exact hb), hc]
  rfl

theorem mark_HopS {l : den (.sl tHop)} {k : Int} (h : SmB 4611686018427387904 (.sl tHop) l) (hk : 0 ≤ k) (hb : k + ((lv (.sl tHop) l : Nat) : Int) ≤ 4611686018427387904) : l_markHopS l k = some (k + ((lv (.sl tHop) l : Nat) : Int), mkT (.sl tHop) l k) := by
  have hc := cntAll_sum (lv tHop) l
  have hc : k + ((cntAll (lv tHop) l : Nat) : Int) = k + ((lv (.sl tHop) l : Nat) : Int) := by rw [hc]; rfl
  unfold l_markHopS
  rw [mark0 (cE := lv tHop) (mE := mkT tHop) (SmB 4611686018427387904 tHop) (fun k i L x hx hi hN hk hb hp => by
      have hd : decide ((i : Int) < (L.length : Int)) = true := by simpa using hi
      have hd0 : decide ((0 : Int) ≤ (i : Int)) = true := by simp
      have hw : IntKind.i64.wrap ((i : Int) + 1) = ((i + 1 : Nat) : Int) := by rw [wrap_in (by omega) (by omega)]; omega
      have hl : k + ((lv tHop x : Nat) : Int) = k + 1 + 1 + 1 + 1 + 1 := by simp only [lv] <;> omega
      rw [hl] at hb
      rw [hl]
      have hE : mkT tHop x k = (k, k + 1, k + 1 + 1, k + 1 + 1 + 1, k + 1 + 1 + 1 + 1) := by first | rfl | (simp [mkT, lv]; try omega)
      have f0 : IntKind.i64.wrap (k + 1) = k + 1 := wrap_in (by omega) (by omega)
      have f1 : IntKind.i64.wrap (k + 1 + 1) = k + 1 + 1 := wrap_in (by omega) (by omega)
      have f2 : IntKind.i64.wrap (k + 1 + 1 + 1) = k + 1 + 1 + 1 := wrap_in (by omega) (by omega)
      have f3 : IntKind.i64.wrap (k + 1 + 1 + 1 + 1) = k + 1 + 1 + 1 + 1 := wrap_in (by omega) (by omega)
      have f4 : IntKind.i64.wrap (k + 1 + 1 + 1 + 1 + 1) = k + 1 + 1 + 1 + 1 + 1 := wrap_in (by omega) (by omega)
      rw [hE]
      simp only [hd, hd0, hw, cond_true, Int.toNat_natCast, hx, obind_some, List.length_set, List.getElem?_set_self hi, List.set_set, f0, f1, f2, f3, f4]) (fun k L => by simp) h.1 h.2 hk (by rw [hc]; exact hb), hc]
  rfl

theorem mark_PathPartS {l : den (.sl tPathPart)} {k : Int} (h : SmB 4611686018427387904 (.sl tPathPart) l) (hk : 0 ≤ k) (hb : k + ((lv (.sl tPathPart) l : Nat) : Int) ≤ 4611686018427387904) : l_markPathPartS l k = some (k + ((lv (.sl tPathPart) l : Nat) : Int), mkT (.sl tPathPart) l k) := by
  have hc := cntAll_sum (lv tPathPart) l
  have hc : k + ((cntAll (lv tPathPart) l : Nat) : Int) = k + ((lv (.sl tPathPart) l : Nat) : Int) := by rw [hc]; rfl
  unfold l_markPathPartS
  rw [mark0 (cE := lv tPathPart) (mE := mkT tPathPart) (SmB 4611686018427387904 tPathPart) (fun k i L x hx hi hN hk hb hp => by
      have hd : decide ((i : Int) < (L.length : Int)) = true := by simpa using hi
      have hd0 : decide ((0 : Int) ≤ (i : Int)) = true := by simp
      have hw : IntKind.i64.wrap ((i : Int) + 1) = ((i + 1 : Nat) : Int) := by rw [wrap_in (by omega) (by omega)]; omega
      have hl : k + ((lv tPathPart x : Nat) : Int) = k + 1 + 1 + 1 + ((lv (.sl tHop) x.2.2.2 : Nat) : Int) := by simp only [lv] <;> omega
      rw [hl] at hb
      rw [hl]
      have hE : mkT tPathPart x k = (k, k + 1, k + 1 + 1, mkT (.sl tHop) x.2.2.2 (k + 1 + 1 + 1)) := by first | rfl | (simp [mkT, lv]; try omega)
      have f0 : IntKind.i64.wrap (k + 1) = k + 1 := wrap_in (by omega) (by omega)
      have f1 : IntKind.i64.wrap (k + 1 + 1) = k + 1 + 1 := wrap_in (by omega) (by omega)
      have f2 : IntKind.i64.wrap (k + 1 + 1 + 1) = k + 1 + 1 + 1 := wrap_in (by omega) (by omega)
      have f3 := mark_HopS (l := x.2.2.2) (k := k + 1 + 1 + 1) hp.2.2.2 (by omega) (by omega)
      rw [hE]
      simp only [hd, hd0, hw, cond_true, Int.toNat_natCast, hx, obind_some, List.length_set, List.getElem?_set_self hi, List.set_set, f0, f1, f2, f3]) (fun k L => by simp) h.1 h.2 hk (by rw [hc]; exact hb), hc]
  rfl

theorem mark_PathS {l : den (.sl tPath)} {k : Int} (h : SmB 4611686018427387904 (.sl tPath) l) (hk : 0 ≤ k) (hb : k + ((lv (.sl tPath) l : Nat) : Int) ≤ 4611686018427387904) : l_markPathS l k = some (k + ((lv (.sl tPath) l : Nat) : Int), mkT (.sl tPath) l k) := by
  have hc := cntAll_sum (lv tPath) l
  have hc : k + ((cntAll (lv tPath) l : Nat) : Int) = k + ((lv (.sl tPath) l : Nat) : Int) := by rw [hc]; rfl
  unfold l_markPathS
  rw [mark0 (cE := lv tPath) (mE := mkT tPath) (SmB 4611686018427387904 tPath) (fun k i L x hx hi hN hk hb hp => by
      have hd : decide ((i : Int) < (L.length : Int)) = true := by simpa using hi
      have hd0 : decide ((0 : Int) ≤ (i : Int)) = true := by simp
      have hw : IntKind.i64.wrap ((i : Int) + 1) = ((i + 1 : Nat) : Int) := by rw [wrap_in (by omega) (by omega)]; omega
      have hl : k + ((lv tPath x : Nat) : Int) = k + ((lv (.sl tPathPart) x : Nat) : Int) := by simp only [lv] <;> omega
      rw [hl] at hb
      rw [hl]
      have hE : mkT tPath x k = mkT (.sl tPathPart) x (k) := by first | rfl | (simp [mkT, lv]; try omega)
      have f0 := mark_PathPartS (l := x) (k := k) hp (by omega) (by omega)
      rw [hE]
      simp only [hd, hd0, hw, cond_true, Int.toNat_natCast, hx, obind_some, List.length_set, List.getElem?_set_self hi, List.set_set, f0]) (fun k L => by simp) h.1 h.2 hk (by rw [hc]; exact hb), hc]
  rfl

theorem mark_RevocationS {l : den (.sl tRevocation)} {k : Int} (h : SmB 4611686018427387904 (.sl tRevocation) l) (hk : 0 ≤ k) (hb : k + ((lv (.sl tRevocation) l : Nat) : Int) ≤ 4611686018427387904) : l_markRevocationS l k = some (k + ((lv (.sl tRevocation) l : Nat) : Int), mkT (.sl tRevocation) l k) := by
  have hc := cntAll_sum (lv tRevocation) l
  have hc : k + ((cntAll (lv tRevocation) l : Nat) : Int) = k + ((lv (.sl tRevocation) l : Nat) : Int) := by rw [hc]; rfl
  unfold l_markRevocationS
  rw [mark0 (cE := lv tRevocation) (mE := mkT tRevocation) (SmB 4611686018427387904 tRevocation) (fun k i L x hx hi hN hk hb hp => by
      have hd : decide ((i : Int) < (L.length : Int)) = true := by simpa using hi
      have hd0 : decide ((0 : Int) ≤ (i : Int)) = true := by simp
      have hw : IntKind.i64.wrap ((i : Int) + 1) = ((i + 1 : Nat) : Int) := by rw [wrap_in (by omega) (by omega)]; omega
      have hl : k + ((lv tRevocation x : Nat) : Int) = k + 1 + 1 + 1 := by simp only [lv] <;> omega
      rw [hl] at hb
      rw [hl]
      have hE : mkT tRevocation x k = (k, k + 1, k + 1 + 1) := by first | rfl | (simp [mkT, lv]; try omega)
      have f0 : IntKind.i64.wrap (k + 1) = k + 1 := wrap_in (by omega) (by omega)
      have f1 : IntKind.i64.wrap (k + 1 + 1) = k + 1 + 1 := wrap_in (by omega) (by omega)
      have f2 : IntKind.i64.wrap (k + 1 + 1 + 1) = k + 1 + 1 + 1 := wrap_in (by omega) (by omega)
      rw [hE]
      simp only [hd, hd0, hw, cond_true, Int.toNat_natCast, hx, obind_some, List.length_set, List.getElem?_set_self hi, List.set_set, f0, f1, f2]) (fun k L => by simp) h.1 h.2 hk (by rw [hc]; exact hb), hc]
  rfl

theorem mark_Flow {x : den tFlow} {k : Int} (h : SmB 4611686018427387904 tFlow x) (hk : 0 ≤ k) (hb : k + ((lv (.sl tMessage) x.2.2.2.2.1 : Nat) : Int) + ((lv (.sl tPath) x.2.2.2.2.2.1 : Nat) : Int) + ((lv (.sl tRevocation) x.2.2.2.2.2.2.2.2 : Nat) : Int) ≤ 4611686018427387904) : l_markFlow x k = some (k + ((lv (.sl tMessage) x.2.2.2.2.1 : Nat) : Int) + ((lv (.sl tPath) x.2.2.2.2.2.1 : Nat) : Int) + ((lv (.sl tRevocation) x.2.2.2.2.2.2.2.2 : Nat) : Int), mkT (.sl tMessage) x.2.2.2.2.1 (k), mkT (.sl tPath) x.2.2.2.2.2.1 (k + ((lv (.sl tMessage) x.2.2.2.2.1 : Nat) : Int)), mkT (.sl tRevocation) x.2.2.2.2.2.2.2.2 (k + ((lv (.sl tMessage) x.2.2.2.2.1 : Nat) : Int) + ((lv (.sl tPath) x.2.2.2.2.2.1 : Nat) : Int))) := by
  have q0 := mark_MessageS (l := x.2.2.2.2.1) (k := k) h.2.2.2.2.1 (by omega) (by omega)
  have q1 := mark_PathS (l := x.2.2.2.2.2.1) (k := k + ((lv (.sl tMessage) x.2.2.2.2.1 : Nat) : Int)) h.2.2.2.2.2.1 (by omega) (by omega)
  have q2 := mark_RevocationS (l := x.2.2.2.2.2.2.2.2) (k := k + ((lv (.sl tMessage) x.2.2.2.2.1 : Nat) : Int) + ((lv (.sl tPath) x.2.2.2.2.2.1 : Nat) : Int)) h.2.2.2.2.2.2.2.2 (by omega) (by omega)
  unfold l_markFlow
  simp only [q0, q1, q2, obind_some, peta]

theorem held_ByteS {l : den (.sl tb)} {k : Int} (h : SmB 4611686018427387904 (.sl tb) l) (hk : 0 ≤ k) (hb : k + ((lv (.sl tb) l : Nat) : Int) ≤ 4611686018427387904) : l_heldByteS (mkT (.sl tb) l k) k = some (k + ((lv (.sl tb) l : Nat) : Int)) := by
  have hc := cntAll_sum (lv tb) l
  have hc : k + ((cntAll (lv tb) l : Nat) : Int) = k + ((lv (.sl tb) l : Nat) : Int) := by rw [hc]; rfl
  unfold l_heldByteS
  have := held0 (cE := lv tb) (mE := mkT tb) (SmB 4611686018427387904 tb) (fun (a_a : List Int) => fun (s3 : Int × Int) => cond (decide (s3.2 < (a_a.length : Int))) (Option.bind (idx a_a s3.2) fun x4 => cond (x4 != (IntKind.wrap .u8 s3.1)) (some (Sum.inr (Sum.inr (-1 : Int)))) (some (Sum.inl (wr (s3.1 + (1 : Int)), wr (s3.2 + (1 : Int)))))) (some (Sum.inr (Sum.inl s3.1)))) (l := l) (k := k) (fun k i L x hx hi hN hk hb hp => by
      have hd : decide ((i : Int) < (L.length : Int)) = true := by simpa using hi
      have hd0 : decide ((0 : Int) ≤ (i : Int)) = true := by simp
      have hw : IntKind.i64.wrap ((i : Int) + 1) = ((i + 1 : Nat) : Int) := by rw [wrap_in (by omega) (by omega)]; omega
      have hl : k + ((lv tb x : Nat) : Int) = k + 1 := by simp only [lv] <;> omega
      rw [hl] at hb
      rw [hl]
      have hE : mkT tb x k = IntKind.u8.wrap (k) := by first | rfl | (simp [mkT, lv]; try omega)
      have f0 : IntKind.i64.wrap (k + 1) = k + 1 := wrap_in (by omega) (by omega)
      rw [hE] at hx
      have hi2 : idx L (i : Int) = some (IntKind.u8.wrap (k)) := by rw [idx_nat]; exact hx
      simp only [hd, hw, hi2, cond_true, obind_some, bne_self_eq_false, cond_false, f0]) (fun k L => by simp) h.1 h.2 hk (by rw [hc]; exact hb)
  rw [hc] at this
  show Option.bind (loopM _ (k, (0 : Int))) _ = _
  rw [show (mkT (.sl tb) l k) = markAll (lv tb) (mkT tb) l k from rfl, this]
  rfl

theorem held_MessageS {l : den (.sl tMessage)} {k : Int} (h : SmB 4611686018427387904 (.sl tMessage) l) (hk : 0 ≤ k) (hb : k + ((lv (.sl tMessage) l : Nat) : Int) ≤ 4611686018427387904) : l_heldMessageS (mkT (.sl tMessage) l k) k = some (k + ((lv (.sl tMessage) l : Nat) : Int)) := by
  have hc := cntAll_sum (lv tMessage) l
  have hc : k + ((cntAll (lv tMessage) l : Nat) : Int) = k + ((lv (.sl tMessage) l : Nat) : Int) := by rw [hc]; rfl
  unfold l_heldMessageS
  have := held0 (cE := lv tMessage) (mE := mkT tMessage) (SmB 4611686018427387904 tMessage) (fun (a_a : List (den tMessage)) => fun (s4 : Int × Int) => cond (decide (s4.2 < (a_a.length : Int))) (Option.bind (idx a_a s4.2) fun x5 => Option.bind (l_heldByteS x5 s4.1) fun y6 => cond (decide (y6 < (0 : Int))) (some (Sum.inr (Sum.inr (-1 : Int)))) (some (Sum.inl (y6, wr (s4.2 + (1 : Int)))))) (some (Sum.inr (Sum.inl s4.1)))) (l := l) (k := k) (fun k i L x hx hi hN hk hb hp => by
      have hd : decide ((i : Int) < (L.length : Int)) = true := by simpa using hi
      have hd0 : decide ((0 : Int) ≤ (i : Int)) = true := by simp
      have hw : IntKind.i64.wrap ((i : Int) + 1) = ((i + 1 : Nat) : Int) := by rw [wrap_in (by omega) (by omega)]; omega
      have hl : k + ((lv tMessage x : Nat) : Int) = k + ((lv (.sl tb) x : Nat) : Int) := by simp only [lv] <;> omega
      rw [hl] at hb
      rw [hl]
      have hE : mkT tMessage x k = mkT (.sl tb) x (k) := by first | rfl | (simp [mkT, lv]; try omega)
      have f0 := held_ByteS (l := x) (k := k) hp (by omega) (by omega)
      have g0 : decide (k + ((lv (.sl tb) x : Nat) : Int) < 0) = false := by simp <;> omega
      rw [hE] at hx
      have hi2 : idx L (i : Int) = some (mkT (.sl tb) x (k)) := by rw [idx_nat]; exact hx
      simp only [hd, hw, hi2, cond_true, obind_some, bne_self_eq_false, cond_false, f0, g0]) (fun k L => by simp) h.1 h.2 hk (by rw [hc]; exact hb)
  rw [hc] at this
  show Option.bind (loopM _ (k, (0 : Int))) _ = _
  rw [show (mkT (.sl tMessage) l k) = markAll (lv tMessage) (mkT tMessage) l k from rfl, this]
  rfl

theorem held_HopS {l : den (.sl tHop)} {k : Int} (h : SmB 4611686018427387904 (.sl tHop) l) (hk : 0 ≤ k) (hb : k + ((lv (.sl tHop) l : Nat) : Int) ≤ 4611686018427387904) : l_heldHopS (mkT (.sl tHop) l k) k = some (k + ((lv (.sl tHop) l : Nat) : Int)) := by
  have hc := cntAll_sum (lv tHop) l
  have hc : k + ((cntAll (lv tHop) l : Nat) : Int) = k + ((lv (.sl tHop) l : Nat) : Int) := by rw [hc]; rfl
  unfold l_heldHopS
  have := held0 (cE := lv tHop) (mE := mkT tHop) (SmB 4611686018427387904 tHop) (fun (a_a : List (den tHop)) => fun (s7 : Int × Int) => cond (decide (s7.2 < (a_a.length : Int))) (Option.bind (idx a_a s7.2) fun x8 => cond (x8.1 != s7.1) (some (Sum.inr (Sum.inr (-1 : Int)))) (Option.bind (idx a_a s7.2) fun x9 => cond (x9.2.1 != (wr (s7.1 + (1 : Int)))) (some (Sum.inr (Sum.inr (-1 : Int)))) (Option.bind (idx a_a s7.2) fun x10 => cond (x10.2.2.1 != (wr ((wr (s7.1 + (1 : Int))) + (1 : Int)))) (some (Sum.inr (Sum.inr (-1 : Int)))) (Option.bind (idx a_a s7.2) fun x11 => cond (x11.2.2.2.1 != (wr ((wr ((wr (s7.1 + (1 : Int))) + (1 : Int))) + (1 : Int)))) (some (Sum.inr (Sum.inr (-1 : Int)))) (Option.bind (idx a_a s7.2) fun x12 => cond (x12.2.2.2.2 != (wr ((wr ((wr ((wr (s7.1 + (1 : Int))) + (1 : Int))) + (1 : Int))) + (1 : Int)))) (some (Sum.inr (Sum.inr (-1 : Int)))) (some (Sum.inl (wr ((wr ((wr ((wr ((wr (s7.1 + (1 : Int))) + (1 : Int))) + (1 : Int))) + (1 : Int))) + (1 : Int)), wr (s7.2 + (1 : Int)))))))))) (some (Sum.inr (Sum.inl s7.1)))) (l := l) (k := k) (fun k i L x hx hi hN hk hb hp => by
      have hd : decide ((i : Int) < (L.length : Int)) = true := by simpa using hi
      have hd0 : decide ((0 : Int) ≤ (i : Int)) = true := by simp
      have hw : IntKind.i64.wrap ((i : Int) + 1) = ((i + 1 : Nat) : Int) := by rw [wrap_in (by omega) (by omega)]; omega
      have hl : k + ((lv tHop x : Nat) : Int) = k + 1 + 1 + 1 + 1 + 1 := by simp only [lv] <;> omega
      rw [hl] at hb
      rw [hl]
      have hE : mkT tHop x k = (k, k + 1, k + 1 + 1, k + 1 + 1 + 1, k + 1 + 1 + 1 + 1) := by first | rfl | (simp [mkT, lv]; try omega)
      have f0 : IntKind.i64.wrap (k + 1) = k + 1 := wrap_in (by omega) (by omega)
      have f1 : IntKind.i64.wrap (k + 1 + 1) = k + 1 + 1 := wrap_in (by omega) (by omega)
      have f2 : IntKind.i64.wrap (k + 1 + 1 + 1) = k + 1 + 1 + 1 := wrap_in (by omega) (by omega)
      have f3 : IntKind.i64.wrap (k + 1 + 1 + 1 + 1) = k + 1 + 1 + 1 + 1 := wrap_in (by omega) (by omega)
      have f4 : IntKind.i64.wrap (k + 1 + 1 + 1 + 1 + 1) = k + 1 + 1 + 1 + 1 + 1 := wrap_in (by omega) (by omega)
      rw [hE] at hx
      have hi2 : idx L (i : Int) = some (k, k + 1, k + 1 + 1, k + 1 + 1 + 1, k + 1 + 1 + 1 + 1) := by rw [idx_nat]; exact hx
      simp only [hd, hw, hi2, cond_true, obind_some, bne_self_eq_false, cond_false, f0, f1, f2, f3, f4]) (fun k L => by simp) h.1 h.2 hk (by rw [hc]; exact hb)
  rw [hc] at this
  show Option.bind (loopM _ (k, (0 : Int))) _ = _
  rw [show (mkT (.sl tHop) l k) = markAll (lv tHop) (mkT tHop) l k from rfl, this]
  rfl

theorem held_PathPartS {l : den (.sl tPathPart)} {k : Int} (h : SmB 4611686018427387904 (.sl tPathPart) l) (hk : 0 ≤ k) (hb : k + ((lv (.sl tPathPart) l : Nat) : Int) ≤ 4611686018427387904) : l_heldPathPartS (mkT (.sl tPathPart) l k) k = some (k + ((lv (.sl tPathPart) l : Nat) : Int)) := by
  have hc := cntAll_sum (lv tPathPart) l
  have hc : k + ((cntAll (lv tPathPart) l : Nat) : Int) = k + ((lv (.sl tPathPart) l : Nat) : Int) := by rw [hc]; rfl
  unfold l_heldPathPartS
  have := held0 (cE := lv tPathPart) (mE := mkT tPathPart) (SmB 4611686018427387904 tPathPart) (fun (a_a : List (den tPathPart)) => fun (s7 : Int × Int) => cond (decide (s7.2 < (a_a.length : Int))) (Option.bind (idx a_a s7.2) fun x8 => cond (x8.1 != s7.1) (some (Sum.inr (Sum.inr (-1 : Int)))) (Option.bind (idx a_a s7.2) fun x9 => cond (x9.2.1 != (wr (s7.1 + (1 : Int)))) (some (Sum.inr (Sum.inr (-1 : Int)))) (Option.bind (idx a_a s7.2) fun x10 => cond (x10.2.2.1 != (wr ((wr (s7.1 + (1 : Int))) + (1 : Int)))) (some (Sum.inr (Sum.inr (-1 : Int)))) (Option.bind (idx a_a s7.2) fun x11 => Option.bind (l_heldHopS x11.2.2.2 (wr ((wr ((wr (s7.1 + (1 : Int))) + (1 : Int))) + (1 : Int)))) fun y12 => cond (decide (y12 < (0 : Int))) (some (Sum.inr (Sum.inr (-1 : Int)))) (some (Sum.inl (y12, wr (s7.2 + (1 : Int))))))))) (some (Sum.inr (Sum.inl s7.1)))) (l := l) (k := k) (fun k i L x hx hi hN hk hb hp => by
      have hd : decide ((i : Int) < (L.length : Int)) = true := by simpa using hi
      have hd0 : decide ((0 : Int) ≤ (i : Int)) = true := by simp
      have hw : IntKind.i64.wrap ((i : Int) + 1) = ((i + 1 : Nat) : Int) := by rw [wrap_in (by omega) (by omega)]; omega
      have hl : k + ((lv tPathPart x : Nat) : Int) = k + 1 + 1 + 1 + ((lv (.sl tHop) x.2.2.2 : Nat) : Int) := by simp only [lv] <;> omega
      rw [hl] at hb
      rw [hl]
      have hE : mkT tPathPart x k = (k, k + 1, k + 1 + 1, mkT (.sl tHop) x.2.2.2 (k + 1 + 1 + 1)) := by first | rfl | (simp [mkT, lv]; try omega)
      have f0 : IntKind.i64.wrap (k + 1) = k + 1 := wrap_in (by omega) (by omega)
      have f1 : IntKind.i64.wrap (k + 1 + 1) = k + 1 + 1 := wrap_in (by omega) (by omega)
      have f2 : IntKind.i64.wrap (k + 1 + 1 + 1) = k + 1 + 1 + 1 := wrap_in (by omega) (by omega)
      have f3 := held_HopS (l := x.2.2.2) (k := k + 1 + 1 + 1) hp.2.2.2 (by omega) (by omega)
      have g3 : decide (k + 1 + 1 + 1 + ((lv (.sl tHop) x.2.2.2 : Nat) : Int) < 0) = false := by simp <;> omega
      rw [hE] at hx
      have hi2 : idx L (i : Int) = some (k, k + 1, k + 1 + 1, mkT (.sl tHop) x.2.2.2 (k + 1 + 1 + 1)) := by rw [idx_nat]; exact hx
      simp only [hd, hw, hi2, cond_true, obind_some, bne_self_eq_false, cond_false, f0, f1, f2, f3, g3]) (fun k L => by simp) h.1 h.2 hk (by rw [hc]; exact hb)
  rw [hc] at this
  show Option.bind (loopM _ (k, (0 : Int))) _ = _
  rw [show (mkT (.sl tPathPart) l k) = markAll (lv tPathPart) (mkT tPathPart) l k from rfl, this]
  rfl

theorem held_PathS {l : den (.sl tPath)} {k : Int} (h : SmB 4611686018427387904 (.sl tPath) l) (hk : 0 ≤ k) (hb : k + ((lv (.sl tPath) l : Nat) : Int) ≤ 4611686018427387904) : l_heldPathS (mkT (.sl tPath) l k) k = some (k + ((lv (.sl tPath) l : Nat) : Int)) := by
  have hc := cntAll_sum (lv tPath) l
  have hc : k + ((cntAll (lv tPath) l : Nat) : Int) = k + ((lv (.sl tPath) l : Nat) : Int) := by rw [hc]; rfl
  unfold l_heldPathS
  have := held0 (cE := lv tPath) (mE := mkT tPath) (SmB 4611686018427387904 tPath) (fun (a_a : List (den tPath)) => fun (s4 : Int × Int) => cond (decide (s4.2 < (a_a.length : Int))) (Option.bind (idx a_a s4.2) fun x5 => Option.bind (l_heldPathPartS x5 s4.1) fun y6 => cond (decide (y6 < (0 : Int))) (some (Sum.inr (Sum.inr (-1 : Int)))) (some (Sum.inl (y6, wr (s4.2 + (1 : Int)))))) (some (Sum.inr (Sum.inl s4.1)))) (l := l) (k := k) (fun k i L x hx hi hN hk hb hp => by
      have hd : decide ((i : Int) < (L.length : Int)) = true := by simpa using hi
      have hd0 : decide ((0 : Int) ≤ (i : Int)) = true := by simp
      have hw : IntKind.i64.wrap ((i : Int) + 1) = ((i + 1 : Nat) : Int) := by rw [wrap_in (by omega) (by omega)]; omega
      have hl : k + ((lv tPath x : Nat) : Int) = k + ((lv (.sl tPathPart) x : Nat) : Int) := by simp only [lv] <;> omega
      rw [hl] at hb
      rw [hl]
      have hE : mkT tPath x k = mkT (.sl tPathPart) x (k) := by first | rfl | (simp [mkT, lv]; try omega)
      have f0 := held_PathPartS (l := x) (k := k) hp (by omega) (by omega)
      have g0 : decide (k + ((lv (.sl tPathPart) x : Nat) : Int) < 0) = false := by simp <;> omega
      rw [hE] at hx
      have hi2 : idx L (i : Int) = some (mkT (.sl tPathPart) x (k)) := by rw [idx_nat]; exact hx
      simp only [hd, hw, hi2, cond_true, obind_some, bne_self_eq_false, cond_false, f0, g0]) (fun k L => by simp) h.1 h.2 hk (by rw [hc]; exact hb)
  rw [hc] at this
  show Option.bind (loopM _ (k, (0 : Int))) _ = _
  rw [show (mkT (.sl tPath) l k) = markAll (lv tPath) (mkT tPath) l k from rfl, this]
  rfl

theorem held_RevocationS {l : den (.sl tRevocation)} {k : Int} (h : SmB 4611686018427387904 (.sl tRevocation) l) (hk : 0 ≤ k) (hb : k + ((lv (.sl tRevocation) l : Nat) : Int) ≤ 4611686018427387904) : l_heldRevocationS (mkT (.sl tRevocation) l k) k = some (k + ((lv (.sl tRevocation) l : Nat) : Int)) := by
  have hc := cntAll_sum (lv tRevocation) l
  have hc : k + ((cntAll (lv tRevocation) l : Nat) : Int) = k + ((lv (.sl tRevocation) l : Nat) : Int) := by rw [hc]; rfl
  unfold l_heldRevocationS
  have := held0 (cE := lv tRevocation) (mE := mkT tRevocation) (SmB 4611686018427387904 tRevocation) (fun (a_a : List (den tRevocation)) => fun (s5 : Int × Int) => cond (decide (s5.2 < (a_a.length : Int))) (Option.bind (idx a_a s5.2) fun x6 => cond (x6.1 != s5.1) (some (Sum.inr (Sum.inr (-1 : Int)))) (Option.bind (idx a_a s5.2) fun x7 => cond (x7.2.1 != (wr (s5.1 + (1 : Int)))) (some (Sum.inr (Sum.inr (-1 : Int)))) (Option.bind (idx a_a s5.2) fun x8 => cond (x8.2.2 != (wr ((wr (s5.1 + (1 : Int))) + (1 : Int)))) (some (Sum.inr (Sum.inr (-1 : Int)))) (some (Sum.inl (wr ((wr ((wr (s5.1 + (1 : Int))) + (1 : Int))) + (1 : Int)), wr (s5.2 + (1 : Int)))))))) (some (Sum.inr (Sum.inl s5.1)))) (l := l) (k := k) (fun k i L x hx hi hN hk hb hp => by
      have hd : decide ((i : Int) < (L.length : Int)) = true := by simpa using hi
      have hd0 : decide ((0 : Int) ≤ (i : Int)) = true := by simp
      have hw : IntKind.i64.wrap ((i : Int) + 1) = ((i + 1 : Nat) : Int) := by rw [wrap_in (by omega) (by omega)]; omega
      have hl : k + ((lv tRevocation x : Nat) : Int) = k + 1 + 1 + 1 := by simp only [lv] <;> omega
      rw [hl] at hb
      rw [hl]
      have hE : mkT tRevocation x k = (k, k + 1, k + 1 + 1) := by first | rfl | (simp [mkT, lv]; try omega)
      have f0 : IntKind.i64.wrap (k + 1) = k + 1 := wrap_in (by omega) (by omega)
      have f1 : IntKind.i64.wrap (k + 1 + 1) = k + 1 + 1 := wrap_in (by omega) (by omega)
      have f2 : IntKind.i64.wrap (k + 1 + 1 + 1) = k + 1 + 1 + 1 := wrap_in (by omega) (by omega)
      rw [hE] at hx
      have hi2 : idx L (i : Int) = some (k, k + 1, k + 1 + 1) := by rw [idx_nat]; exact hx
      simp only [hd, hw, hi2, cond_true, obind_some, bne_self_eq_false, cond_false, f0, f1, f2]) (fun k L => by simp) h.1 h.2 hk (by rw [hc]; exact hb)
  rw [hc] at this
  show Option.bind (loopM _ (k, (0 : Int))) _ = _
  rw [show (mkT (.sl tRevocation) l k) = markAll (lv tRevocation) (mkT tRevocation) l k from rfl, this]
  rfl

theorem held_Flow {x : den tFlow} {k : Int} (h : SmB 4611686018427387904 tFlow x) (hk : 0 ≤ k) (hb : k + ((lv (.sl tMessage) x.2.2.2.2.1 : Nat) : Int) + ((lv (.sl tPath) x.2.2.2.2.2.1 : Nat) : Int) + ((lv (.sl tRevocation) x.2.2.2.2.2.2.2.2 : Nat) : Int) ≤ 4611686018427387904) : l_heldFlow (x.1, x.2.1, x.2.2.1, x.2.2.2.1, mkT (.sl tMessage) x.2.2.2.2.1 (k), mkT (.sl tPath) x.2.2.2.2.2.1 (k + ((lv (.sl tMessage) x.2.2.2.2.1 : Nat) : Int)), x.2.2.2.2.2.2.1, x.2.2.2.2.2.2.2.1, mkT (.sl tRevocation) x.2.2.2.2.2.2.2.2 (k + ((lv (.sl tMessage) x.2.2.2.2.1 : Nat) : Int) + ((lv (.sl tPath) x.2.2.2.2.2.1 : Nat) : Int))) k = some (k + ((lv (.sl tMessage) x.2.2.2.2.1 : Nat) : Int) + ((lv (.sl tPath) x.2.2.2.2.2.1 : Nat) : Int) + ((lv (.sl tRevocation) x.2.2.2.2.2.2.2.2 : Nat) : Int)) := by
  have q0 := held_MessageS (l := x.2.2.2.2.1) (k := k) h.2.2.2.2.1 (by omega) (by omega)
  have q1 := held_PathS (l := x.2.2.2.2.2.1) (k := k + ((lv (.sl tMessage) x.2.2.2.2.1 : Nat) : Int)) h.2.2.2.2.2.1 (by omega) (by omega)
  have q2 := held_RevocationS (l := x.2.2.2.2.2.2.2.2) (k := k + ((lv (.sl tMessage) x.2.2.2.2.1 : Nat) : Int) + ((lv (.sl tPath) x.2.2.2.2.2.1 : Nat) : Int)) h.2.2.2.2.2.2.2.2 (by omega) (by omega)
  have d0 : decide (k + ((lv (.sl tMessage) x.2.2.2.2.1 : Nat) : Int) < 0) = false := by simp <;> omega
  have d1 : decide (k + ((lv (.sl tMessage) x.2.2.2.2.1 : Nat) : Int) + ((lv (.sl tPath) x.2.2.2.2.2.1 : Nat) : Int) < 0) = false := by simp <;> omega
  have d2 : decide (k + ((lv (.sl tMessage) x.2.2.2.2.1 : Nat) : Int) + ((lv (.sl tPath) x.2.2.2.2.2.1 : Nat) : Int) + ((lv (.sl tRevocation) x.2.2.2.2.2.2.2.2 : Nat) : Int) < 0) = false := by simp <;> omega
  unfold l_heldFlow
  simp only [q0, q1, q2, d0, d1, d2, obind_some, peta, cond_false]

def inR (n a b : Int) : Bool := decide (a ≤ n) && decide (n ≤ b)

theorem i_in (n a b : Int) : i_InRange n a b = some (inR n a b) := by
  unfold i_InRange inR
  by_cases h : a ≤ n <;> simp [h]

theorem s_in (n a b : Int) : s_l1In n a b = some (inR n a b) := by
  unfold s_l1In inR
  by_cases h : a ≤ n <;> simp [h]

theorem s_max (a b : Int) : s_Max a b = some (if b > a then b else a) := by
  unfold s_Max
  by_cases h : b > a <;> simp [h]

theorem i_copyB {b : List Int} (h : b.length ≤ 68719476736) : i_copyBytes b = some b := by
  unfold i_copyBytes
  rw [apOk_le (by decide) (by simpa using h)]; simp

theorem i_copyH {l : List (den tHop)} (h : l.length ≤ 68719476736) : i_copyHops l = some l := by
  unfold i_copyHops
  rw [apOk_le (by decide) (by simpa using h)]; simp

theorem i_copyV {l : List (den tRevocation)} (h : l.length ≤ 68719476736) : i_copyRevocations l = some l := by
  unfold i_copyRevocations
  rw [apOk_le (by decide) (by simpa using h)]; simp

theorem s_copyPt {p : den tPathPart} (h : SmB 68719476736 tPathPart p) : s_l21Copy p = some p := by
  unfold s_l21Copy
  rw [apOk_le (by decide) (by simpa using h.2.2.2.1)]; simp

theorem i_copyP {p : den tPath} (h : SmB 68719476736 tPath p) : i_copyPath p = some p := by
  unfold i_copyPath
  rw [(loopF (fun k (a : List (den tPathPart)) => ((k : Int), a)) ((0 : Int), []) [] p (fun _ x a => a ++ [x]) List.length (fun _ => 1) 68719476736 id rfl (Nat.le_trans h.1 (by decide)) (by rw [sum_one]; simpa using h.1) (fun k x a hi hx hd hw hk hb => by
    have e := h.2 x (List.mem_of_getElem? hx)
    simp only [hd, hi, hw, cond_true, obind_some, i_copyH e.2.2.2.1, peta, apOk_le (b := 48) (by decide) hb]
    simp) (fun a => by simp)).1, foldI_map (fun x => x)]
  simp

theorem s_copyP {p : den tPath} (h : SmB 68719476736 tPath p) : s_l22Copy p = some p := by
  unfold s_l22Copy
  rw [(loopF (fun k (a : List (den tPathPart)) => ((k : Int), a)) ((0 : Int), []) [] p (fun _ x a => a ++ [x]) List.length (fun _ => 1) 68719476736 id rfl (Nat.le_trans h.1 (by decide)) (by rw [sum_one]; simpa using h.1) (fun k x a hi hx hd hw hk hb => by
    have e := h.2 x (List.mem_of_getElem? hx)
    simp only [hd, hi, hw, cond_true, obind_some, peta, s_copyPt e, apOk_le (b := 48) (by decide) hb]
    simp) (fun a => by simp)).1, foldI_map (fun x => x)]
  simp

theorem i_copyPs {l : List (den tPath)} (h : SmB 68719476736 (.sl tPath) l) : i_copyPaths l = some l := by
  unfold i_copyPaths
  rw [(loopF (fun k (a : List (den tPath)) => ((k : Int), a)) ((0 : Int), []) [] l (fun _ x a => a ++ [x]) List.length (fun _ => 1) 68719476736 id rfl (Nat.le_trans h.1 (by decide)) (by rw [sum_one]; simpa using h.1) (fun k x a hi hx hd hw hk hb => by
    have e := h.2 x (List.mem_of_getElem? hx)
    simp only [hd, hi, hw, cond_true, obind_some, i_copyP e, apOk_le (b := 24) (by decide) hb]
    simp) (fun a => by simp)).1, foldI_map (fun x => x)]
  simp

theorem s_copyPs {l : List (den tPath)} (h : SmB 68719476736 (.sl tPath) l) : s_l24Copy l = some l := by
  unfold s_l24Copy
  rw [(loopF (fun k (a : List (den tPath)) => ((k : Int), a)) ((0 : Int), []) [] l (fun _ x a => a ++ [x]) List.length (fun _ => 1) 68719476736 id rfl (Nat.le_trans h.1 (by decide)) (by rw [sum_one]; simpa using h.1) (fun k x a hi hx hd hw hk hb => by
    have e := h.2 x (List.mem_of_getElem? hx)
    simp only [hd, hi, hw, cond_true, obind_some, s_copyP e, apOk_le (b := 24) (by decide) hb]
    simp) (fun a => by simp)).1, foldI_map (fun x => x)]
  simp

theorem i_copyM {l : List (den tMessage)} (h : SmB 68719476736 (.sl tMessage) l) : i_copyMessages l = some l := by
  unfold i_copyMessages
  rw [(loopF (fun k (a : List (den tMessage)) => ((k : Int), a)) ((0 : Int), []) [] l (fun _ x a => a ++ [x]) List.length (fun _ => 1) 68719476736 id rfl (Nat.le_trans h.1 (by decide)) (by rw [sum_one]; simpa using h.1) (fun k x a hi hx hd hw hk hb => by
    have e := h.2 x (List.mem_of_getElem? hx)
    simp only [hd, hi, hw, cond_true, obind_some, i_copyB e.1, apOk_le (b := 24) (by decide) hb]
    simp) (fun a => by simp)).1, foldI_map (fun x => x)]
  simp

theorem s_copyM {l : List (den tMessage)} (h : SmB 68719476736 (.sl tMessage) l) : s_l35Texts l = some l := by
  unfold s_l35Texts
  rw [(loopF (fun k (a : List (den tMessage)) => ((k : Int), a)) ((0 : Int), []) [] l (fun _ x a => a ++ [x]) List.length (fun _ => 1) 68719476736 id rfl (Nat.le_trans h.1 (by decide)) (by rw [sum_one]; simpa using h.1) (fun k x a hi hx hd hw hk hb => by
    have e := h.2 x (List.mem_of_getElem? hx)
    simp only [hd, hi, hw, cond_true, obind_some, apOk_le (b := 1) (n := ([] : List Int).length) (by decide) (by simpa using e.1), apOk_le (b := 24) (by decide) hb]
    simp) (fun a => by simp)).1, foldI_map (fun x => x)]
  simp

/-- A flow as it is handed back: its slices last. -/
def flowR (f : den tFlow) : Int × Int × Int × Int × Int × Int × (List (den tMessage)) × (List (den tPath)) × (List (den tRevocation)) := (f.1, f.2.1, f.2.2.1, f.2.2.2.1, f.2.2.2.2.2.2.1, f.2.2.2.2.2.2.2.1, f.2.2.2.2.1, f.2.2.2.2.2.1, f.2.2.2.2.2.2.2.2)

theorem i_copyF {f : den tFlow} (h : SmB 68719476736 tFlow f) : i_copyFlow f = some (flowR f) := by
  unfold i_copyFlow flowR
  simp only [i_copyM h.2.2.2.2.1, i_copyPs h.2.2.2.2.2.1, i_copyV h.2.2.2.2.2.2.2.2.1, obind_some]

theorem s_copyF {f : den tFlow} (h : SmB 68719476736 tFlow f) : s_l35Copy f = some (flowR f) := by
  unfold s_l35Copy flowR
  simp only [s_copyM h.2.2.2.2.1, s_copyPs h.2.2.2.2.2.1, obind_some, apOk_le (b := 24) (n := ([] : List (den tRevocation)).length) (by decide) (by simpa using h.2.2.2.2.2.2.2.2.1), cond_true, List.nil_append]

def validV (x : den tRevocation) : Bool := inR x.1 0 7 && (inR x.2.1 1 6 && inR x.2.2 0 1000000)

theorem i_validV (x : den tRevocation) : i_ValidRevocation x = some (validV x) := by
  unfold i_ValidRevocation validV
  simp only [i_in, obind_some]
  cases inR x.1 0 7 <;> cases inR x.2.1 1 6 <;> cases inR x.2.2 0 1000000 <;> rfl

theorem s_validV (x : den tRevocation) : s_ValidRevocation x = some (validV x) := by
  unfold s_ValidRevocation validV
  simp only [s_in, obind_some]
  cases inR x.1 0 7 <;> cases inR x.2.1 1 6 <;> cases inR x.2.2 0 1000000 <;> rfl

/-- A loop that answers false at the first that fails. -/
theorem scanB {α S : Type} (p : Nat → α → Bool) : ∀ (l : List α) (k : Nat) (ρ : S), scanI (fun k x => if p k x then none else some ρ) k l = if (l.zipIdx k).all (fun x => p x.2 x.1) then none else some ρ
  | [], _, _ => rfl
  | x :: xs, k, ρ => by
    simp only [scanI, List.zipIdx_cons, List.all_cons]
    rcases Bool.eq_false_or_eq_true (p k x) with h | h
    · simp only [h, if_true, Bool.true_and]; exact scanB p xs (k + 1) ρ
    · simp [h]

theorem zip_all {α : Type} (p : α → Bool) : ∀ (l : List α) (k : Nat), (l.zipIdx k).all (fun x => p x.1) = l.all p
  | [], _ => rfl
  | x :: xs, k => by simp [List.zipIdx_cons, zip_all p xs]

theorem scanA {α S : Type} (p : α → Bool) (l : List α) (ρ : S) : scanI (fun _ x => if p x then none else some ρ) 0 l = if l.all p then none else some ρ := by
  rw [scanB (fun _ x => p x), zip_all p]

def validF (f : den tFlow) : Bool :=
  inR f.1 0 7 && (inR f.2.1 0 7 && (!(f.1 == f.2.1) && (inR f.2.2.1 0 100000 && (decide (f.2.2.2.2.1.length ≤ 20) && (inR f.2.2.2.1 0 (f.2.2.2.2.1.length : Int) && (decide (f.2.2.2.2.2.1.length ≤ 24) &&
    (f.2.2.2.2.1.all (fun m => decide (m.length ≤ 40)) && (f.2.2.2.2.2.2.2.2.all validV && ((f.2.2.2.2.2.2.1 == 0 || inR f.2.2.2.2.2.2.1 0 ((f.2.2.2.2.2.1.length : Int) - 1)) && (inR f.2.2.2.2.2.2.2.1 0 4 && decide (f.2.2.2.2.2.2.2.2.length ≤ 16)))))))))))

theorem i_validF {f : den tFlow} (h : SmB 68719476736 tFlow f) : i_ValidFlow f = some (validF f) := by
  have h1 := h.2.2.2.2.1.1
  have h2 := h.2.2.2.2.2.1.1
  have h3 := h.2.2.2.2.2.2.2.2.1
  unfold i_ValidFlow validF
  rw [loop_scan (l := f.2.2.2.2.1) (fun _ m => if decide (m.length ≤ 40) then none else some false) (by omega) (fun k m hi hd hw hx hk => by
    simp only [hd, hi, hw, cond_true, obind_some]
    by_cases hm : m.length ≤ 40
    · simp [hm, show ¬ ((m.length : Int) > 40) by omega]
    · simp [hm, show (m.length : Int) > 40 by omega]) (by simp)]
  rw [loop_scan (l := f.2.2.2.2.2.2.2.2) (fun _ x => if validV x then none else some false) (by omega) (fun k x hi hd hw hx hk => by
    simp only [hd, hi, hw, cond_true, obind_some, peta, i_validV]
    cases validV x <;> rfl) (by simp)]
  rw [scanA (fun m : List Int => decide (m.length ≤ 40)), scanA validV]
  have e1 : decide ((f.2.2.2.2.1.length : Int) > 20) = !decide (f.2.2.2.2.1.length ≤ 20) := by rw [Bool.eq_iff_iff]; simp; omega
  have e2 : decide ((f.2.2.2.2.2.1.length : Int) > 24) = !decide (f.2.2.2.2.2.1.length ≤ 24) := by rw [Bool.eq_iff_iff]; simp; omega
  have e3 : decide ((f.2.2.2.2.2.2.2.2.length : Int) ≤ 16) = decide (f.2.2.2.2.2.2.2.2.length ≤ 16) := by rw [Bool.eq_iff_iff]; simp; omega
  have e5 : wr ((f.2.2.2.2.2.1.length : Int) - 1) = (f.2.2.2.2.2.1.length : Int) - 1 := wrap_in (by omega) (by omega)
  rw [e5]
  simp only [i_in, obind_some, e1, e2, e3]
  cases inR f.1 0 7 <;> simp only [Bool.not_true, Bool.not_false, cond_true, cond_false, obind_some, Bool.false_and, Bool.true_and]
  cases inR f.2.1 0 7 <;> simp only [Bool.not_true, Bool.not_false, cond_true, cond_false, obind_some, Bool.false_and, Bool.true_and]
  cases f.1 == f.2.1 <;> simp only [Bool.not_true, Bool.not_false, cond_true, cond_false, obind_some, Bool.false_and, Bool.true_and]
  cases inR f.2.2.1 0 100000 <;> simp only [Bool.not_true, Bool.not_false, cond_true, cond_false, obind_some, Bool.false_and, Bool.true_and]
  cases decide (f.2.2.2.2.1.length ≤ 20) <;> simp only [Bool.not_true, Bool.not_false, cond_true, cond_false, obind_some, Bool.false_and, Bool.true_and]
  cases inR f.2.2.2.1 0 (f.2.2.2.2.1.length : Int) <;> simp only [Bool.not_true, Bool.not_false, cond_true, cond_false, obind_some, Bool.false_and, Bool.true_and]
  cases decide (f.2.2.2.2.2.1.length ≤ 24) <;> simp only [Bool.not_true, Bool.not_false, cond_true, cond_false, obind_some, Bool.false_and, Bool.true_and]
  cases f.2.2.2.2.1.all (fun m => decide (m.length ≤ 40)) <;> simp only [Bool.false_eq_true, if_true, if_false, obind_some, Sum.elim_inl, Sum.elim_inr, Bool.false_and, Bool.true_and]
  cases f.2.2.2.2.2.2.2.2.all validV <;> simp only [Bool.false_eq_true, if_true, if_false, obind_some, Sum.elim_inl, Sum.elim_inr, Bool.false_and, Bool.true_and]
  cases f.2.2.2.2.2.2.1 == 0 <;> cases inR f.2.2.2.2.2.2.1 0 ((f.2.2.2.2.2.1.length : Int) - 1) <;> cases inR f.2.2.2.2.2.2.2.1 0 4 <;> rfl

theorem s_validF {f : den tFlow} (h : SmB 68719476736 tFlow f) : s_ValidFlow f = some (validF f) := by
  have h1 := h.2.2.2.2.1.1
  have h2 := h.2.2.2.2.2.1.1
  have h3 := h.2.2.2.2.2.2.2.2.1
  unfold s_ValidFlow validF
  rw [loop_scan (l := f.2.2.2.2.1) (fun _ m => if decide (m.length ≤ 40) then none else some false) (by omega) (fun k m hi hd hw hx hk => by
    simp only [hd, hi, hw, cond_true, obind_some]
    by_cases hm : m.length ≤ 40
    · simp [hm, show ¬ ((m.length : Int) > 40) by omega]
    · simp [hm, show (m.length : Int) > 40 by omega]) (by simp)]
  rw [loop_scan (l := f.2.2.2.2.2.2.2.2) (fun _ x => if validV x then none else some false) (by omega) (fun k x hi hd hw hx hk => by
    simp only [hd, hi, hw, cond_true, obind_some, peta, s_validV]
    cases validV x <;> rfl) (by simp)]
  rw [scanA (fun m : List Int => decide (m.length ≤ 40)), scanA validV]
  have e1 : decide ((f.2.2.2.2.1.length : Int) > 20) = !decide (f.2.2.2.2.1.length ≤ 20) := by rw [Bool.eq_iff_iff]; simp; omega
  have e2 : decide ((f.2.2.2.2.2.1.length : Int) > 24) = !decide (f.2.2.2.2.2.1.length ≤ 24) := by rw [Bool.eq_iff_iff]; simp; omega
  have e3 : decide ((f.2.2.2.2.2.2.2.2.length : Int) > 16) = !decide (f.2.2.2.2.2.2.2.2.length ≤ 16) := by rw [Bool.eq_iff_iff]; simp; omega
  have e4 : inR f.2.2.2.2.2.2.1 0 (if ((f.2.2.2.2.2.1.length : Int) - 1) > 0 then ((f.2.2.2.2.2.1.length : Int) - 1) else 0) = (f.2.2.2.2.2.2.1 == 0 || inR f.2.2.2.2.2.2.1 0 ((f.2.2.2.2.2.1.length : Int) - 1)) := by
    have key : ∀ (c n : Int), 0 ≤ n → inR c 0 (if n - 1 > 0 then n - 1 else 0) = (c == 0 || inR c 0 (n - 1)) := fun c n hn => by
      unfold inR
      by_cases h1 : n - 1 > 0
      · rw [if_pos h1]
        by_cases h2 : c = 0
        · subst h2; simp; omega
        · simp [h2]
      · rw [if_neg h1]
        by_cases h2 : c = 0
        · subst h2; simp
        · rw [Bool.eq_iff_iff]; simp [h2]; omega
    exact key _ _ (by omega)
  have e5 : wr ((f.2.2.2.2.2.1.length : Int) - 1) = (f.2.2.2.2.2.1.length : Int) - 1 := wrap_in (by omega) (by omega)
  rw [e5]
  simp only [s_in, s_max, obind_some, e1, e2, e3, e4]
  cases inR f.1 0 7 <;> simp only [Bool.not_true, Bool.not_false, cond_true, cond_false, obind_some, Bool.false_and, Bool.true_and]
  cases inR f.2.1 0 7 <;> simp only [Bool.not_true, Bool.not_false, cond_true, cond_false, obind_some, Bool.false_and, Bool.true_and]
  cases f.1 == f.2.1 <;> simp only [Bool.not_true, Bool.not_false, cond_true, cond_false, obind_some, Bool.false_and, Bool.true_and]
  cases inR f.2.2.1 0 100000 <;> simp only [Bool.not_true, Bool.not_false, cond_true, cond_false, obind_some, Bool.false_and, Bool.true_and]
  cases decide (f.2.2.2.2.1.length ≤ 20) <;> simp only [Bool.not_true, Bool.not_false, cond_true, cond_false, obind_some, Bool.false_and, Bool.true_and]
  cases inR f.2.2.2.1 0 (f.2.2.2.2.1.length : Int) <;> simp only [Bool.not_true, Bool.not_false, cond_true, cond_false, obind_some, Bool.false_and, Bool.true_and]
  cases decide (f.2.2.2.2.2.1.length ≤ 24) <;> simp only [Bool.not_true, Bool.not_false, cond_true, cond_false, obind_some, Bool.false_and, Bool.true_and]
  cases f.2.2.2.2.2.2.1 == 0 || inR f.2.2.2.2.2.2.1 0 ((f.2.2.2.2.2.1.length : Int) - 1) <;> cases inR f.2.2.2.2.2.2.2.1 0 4 <;> cases decide (f.2.2.2.2.2.2.2.2.length ≤ 16) <;> cases f.2.2.2.2.1.all (fun m => decide (m.length ≤ 40)) <;> cases f.2.2.2.2.2.2.2.2.all validV <;> rfl

def enq (f : den tFlow) (b : List Int) : den tFlow := (f.1, f.2.1, f.2.2.1, f.2.2.2.1, f.2.2.2.2.1 ++ [b], f.2.2.2.2.2.1, f.2.2.2.2.2.2.1, f.2.2.2.2.2.2.2.1, f.2.2.2.2.2.2.2.2)

def enqR (f : den tFlow) (b : List Int) : Int × Int × Int × Int × Int × Int × Bool × (List (den tMessage)) × (List (den tPath)) × (List (den tRevocation)) :=
  if validF (enq f b) then (f.1, f.2.1, f.2.2.1, f.2.2.2.1, f.2.2.2.2.2.2.1, f.2.2.2.2.2.2.2.1, true, f.2.2.2.2.1 ++ [b], f.2.2.2.2.2.1, f.2.2.2.2.2.2.2.2)
  else (f.1, f.2.1, f.2.2.1, f.2.2.2.1, f.2.2.2.2.2.2.1, f.2.2.2.2.2.2.2.1, false, f.2.2.2.2.1, f.2.2.2.2.2.1, f.2.2.2.2.2.2.2.2)

theorem enq_sm {f : den tFlow} {b : List Int} (hf : SmB 4294967296 tFlow f) (hb : SmB 4294967296 (.sl tb) b) : SmB 68719476736 tFlow (enq f b) := by
  have hf' := hf.mono (C := 68719476736) (by decide)
  refine ⟨hf'.1, hf'.2.1, hf'.2.2.1, hf'.2.2.2.1, ⟨?_, fun e he => ?_⟩, hf'.2.2.2.2.2.1, hf'.2.2.2.2.2.2.1, hf'.2.2.2.2.2.2.2.1, hf'.2.2.2.2.2.2.2.2⟩
  · show (f.2.2.2.2.1 ++ [b]).length ≤ _
    have := hf.2.2.2.2.1.1
    rw [List.length_append, List.length_singleton]; omega
  · rcases List.mem_append.1 he with he | he
    · exact hf'.2.2.2.2.1.2 e he
    · rw [List.mem_singleton.1 he]; exact hb.mono (by decide)

theorem i_enq {f : den tFlow} {b : List Int} (hf : SmB 4294967296 tFlow f) (hb : SmB 4294967296 (.sl tb) b) : i_Enqueue f b = some (enqR f b) := by
  unfold i_Enqueue enqR
  have hf' := hf.mono (C := 68719476736) (by decide)
  have h1 := hf.2.2.2.2.1.1
  have h2 : i_ValidFlow (f.1, f.2.1, f.2.2.1, f.2.2.2.1, f.2.2.2.2.1 ++ [b], f.2.2.2.2.2.1, f.2.2.2.2.2.2.1, f.2.2.2.2.2.2.2.1, f.2.2.2.2.2.2.2.2) = some (validF (enq f b)) := i_validF (f := enq f b) (enq_sm hf hb)
  simp only [peta, i_copyF hf', i_copyB (b := b) (Nat.le_trans hb.1 (by decide)), obind_some, flowR, apOk_le (b := 24) (n := f.2.2.2.2.1.length) (m := 1) (by decide) (by omega), cond_true, h2]
  cases validF (enq f b) <;> rfl

theorem s_enq {f : den tFlow} {b : List Int} (hf : SmB 4294967296 tFlow f) (hb : SmB 4294967296 (.sl tb) b) : s_Enqueue f b = some (enqR f b) := by
  unfold s_Enqueue enqR
  have hf' := hf.mono (C := 68719476736) (by decide)
  have h1 := hf.2.2.2.2.1.1
  have h2 : s_ValidFlow (f.1, f.2.1, f.2.2.1, f.2.2.2.1, f.2.2.2.2.1 ++ [b], f.2.2.2.2.2.1, f.2.2.2.2.2.2.1, f.2.2.2.2.2.2.2.1, f.2.2.2.2.2.2.2.2) = some (validF (enq f b)) := s_validF (f := enq f b) (enq_sm hf hb)
  simp only [peta, s_copyF hf', obind_some, flowR, apOk_le (b := 1) (n := ([] : List Int).length) (m := b.length) (by decide) (by have := hb.1; simp; omega), apOk_le (b := 24) (n := f.2.2.2.2.1.length) (m := 1) (by decide) (by omega), cond_true, List.nil_append, h2]
  cases validF (enq f b) <;> rfl

end Go.Proofs.Ytmodgmbmbainmaa
