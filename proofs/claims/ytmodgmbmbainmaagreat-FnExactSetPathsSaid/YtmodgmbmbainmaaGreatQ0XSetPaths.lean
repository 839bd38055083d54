/-
  Facts and plain laws: what the functions compute, in plain words. Conditions: as each says.
-/
import Derived.Test.YtmodgmbmbainmaaGreatT0XSetPaths
set_option linter.unusedVariables false
set_option linter.unusedSimpArgs false
set_option maxRecDepth 100000
namespace Go.Proofs.YtmodgmbmbainmaaGreat
open Go.Ab Go.V
theorem sz_ByteS {l : den (.sl tb)} {left : Int} (w : Wf (.sl tb) l) (h0 : 0 ≤ left) (h1 : left ≤ 1048576) : SzT (l_szByteS l left) left (tot (.sl tb) l) := szF_ok (t := tb) rfl w.1 h0 h1

theorem sz_Message {x : den tMessage} {left : Int} (w : Wf tMessage x) (h0 : 0 ≤ left) (h1 : left ≤ 1048576) : SzT (l_szMessage x left) left (tot tMessage x) := SzT.eq (sz_field (sz_ByteS w h0 h1) h1 fun r0 a0 b0 => sz_done a0) (by simp [tot, tot_flat])

theorem sz_MessageS {l : den (.sl tMessage)} {left : Int} (w : Wf (.sl tMessage) l) (h0 : 0 ≤ left) (h1 : left ≤ 1048576) : SzT (l_szMessageS l left) left (tot (.sl tMessage) l) := szL_ok (t := tMessage) (szE := l_szMessage) w.1 h0 h1 fun x hx k k0 k1 => sz_Message (w.2 x hx) k0 k1

theorem sz_HopS {l : den (.sl tHop)} {left : Int} (w : Wf (.sl tHop) l) (h0 : 0 ≤ left) (h1 : left ≤ 1048576) : SzT (l_szHopS l left) left (tot (.sl tHop) l) := szF_ok (t := tHop) rfl w.1 h0 h1

theorem sz_PathPart {x : den tPathPart} {left : Int} (w : Wf tPathPart x) (h0 : 0 ≤ left) (h1 : left ≤ 1048576) : SzT (l_szPathPart x left) left (tot tPathPart x) := SzT.eq (sz_field (sz_HopS w.2.2.2 h0 h1) h1 fun r0 a0 b0 => sz_done a0) (by simp [tot, tot_flat])

theorem sz_PathPartS {l : den (.sl tPathPart)} {left : Int} (w : Wf (.sl tPathPart) l) (h0 : 0 ≤ left) (h1 : left ≤ 1048576) : SzT (l_szPathPartS l left) left (tot (.sl tPathPart) l) := szL_ok (t := tPathPart) (szE := l_szPathPart) w.1 h0 h1 fun x hx k k0 k1 => sz_PathPart (w.2 x hx) k0 k1

theorem sz_Path {x : den tPath} {left : Int} (w : Wf tPath x) (h0 : 0 ≤ left) (h1 : left ≤ 1048576) : SzT (l_szPath x left) left (tot tPath x) := SzT.eq (sz_field (sz_PathPartS w h0 h1) h1 fun r0 a0 b0 => sz_done a0) (by simp [tot, tot_flat])

theorem sz_PathS {l : den (.sl tPath)} {left : Int} (w : Wf (.sl tPath) l) (h0 : 0 ≤ left) (h1 : left ≤ 1048576) : SzT (l_szPathS l left) left (tot (.sl tPath) l) := szL_ok (t := tPath) (szE := l_szPath) w.1 h0 h1 fun x hx k k0 k1 => sz_Path (w.2 x hx) k0 k1

theorem sz_RevocationS {l : den (.sl tRevocation)} {left : Int} (w : Wf (.sl tRevocation) l) (h0 : 0 ≤ left) (h1 : left ≤ 1048576) : SzT (l_szRevocationS l left) left (tot (.sl tRevocation) l) := szF_ok (t := tRevocation) rfl w.1 h0 h1

theorem sz_Flow {x : den tFlow} {left : Int} (w : Wf tFlow x) (h0 : 0 ≤ left) (h1 : left ≤ 1048576) : SzT (l_szFlow x left) left (tot tFlow x) := SzT.eq (sz_field (sz_MessageS w.2.2.2.2.1 h0 h1) h1 fun r0 a0 b0 => sz_field (sz_PathS w.2.2.2.2.2.1 a0 b0) b0 fun r1 a1 b1 => sz_field (sz_RevocationS w.2.2.2.2.2.2.2.2 a1 b1) b1 fun r2 a2 b2 => sz_done a2) (by simp [tot, tot_flat] <;> omega)

theorem to_ByteS {l : den (.sl tb)} (h : Sm (.sl tb) l) : l_toByteS l = some l := by
  have : l_toByteS l = some (l.map id) := toL_eq (toE := some) (g := id) h.1 (by decide) fun x hx => rfl
  simpa using this

theorem to_Message {x : den tMessage} (h : Sm tMessage x) : l_toMessage x = some x := by
  unfold l_toMessage
  simp [to_ByteS h]

theorem to_MessageS {l : den (.sl tMessage)} (h : Sm (.sl tMessage) l) : l_toMessageS l = some l := by
  have : l_toMessageS l = some (l.map id) := toL_eq (toE := l_toMessage) (g := id) h.1 (by decide) fun x hx => to_Message (h.2 x hx)
  simpa using this

theorem to_Hop {x : den tHop} (h : Sm tHop x) : l_toHop x = some x := by
  unfold l_toHop
  rfl

theorem to_HopS {l : den (.sl tHop)} (h : Sm (.sl tHop) l) : l_toHopS l = some l := by
  have : l_toHopS l = some (l.map id) := toL_eq (toE := l_toHop) (g := id) h.1 (by decide) fun x hx => to_Hop (h.2 x hx)
  simpa using this

theorem to_PathPart {x : den tPathPart} (h : Sm tPathPart x) : l_toPathPart x = some x := by
  unfold l_toPathPart
  simp [to_HopS h.2.2.2]

theorem to_PathPartS {l : den (.sl tPathPart)} (h : Sm (.sl tPathPart) l) : l_toPathPartS l = some l := by
  have : l_toPathPartS l = some (l.map id) := toL_eq (toE := l_toPathPart) (g := id) h.1 (by decide) fun x hx => to_PathPart (h.2 x hx)
  simpa using this

theorem to_Path {x : den tPath} (h : Sm tPath x) : l_toPath x = some x := by
  unfold l_toPath
  simp [to_PathPartS h]

theorem to_PathS {l : den (.sl tPath)} (h : Sm (.sl tPath) l) : l_toPathS l = some l := by
  have : l_toPathS l = some (l.map id) := toL_eq (toE := l_toPath) (g := id) h.1 (by decide) fun x hx => to_Path (h.2 x hx)
  simpa using this

theorem to_Revocation {x : den tRevocation} (h : Sm tRevocation x) : l_toRevocation x = some x := by
  unfold l_toRevocation
  rfl

theorem to_RevocationS {l : den (.sl tRevocation)} (h : Sm (.sl tRevocation) l) : l_toRevocationS l = some l := by
  have : l_toRevocationS l = some (l.map id) := toL_eq (toE := l_toRevocation) (g := id) h.1 (by decide) fun x hx => to_Revocation (h.2 x hx)
  simpa using this

theorem to_Flow {x : den tFlow} (h : Sm tFlow x) : l_toFlow x = some (x.1, x.2.1, x.2.2.1, x.2.2.2.1, x.2.2.2.2.2.2.1, x.2.2.2.2.2.2.2.1, x.2.2.2.2.1, x.2.2.2.2.2.1, x.2.2.2.2.2.2.2.2) := by
  unfold l_toFlow
  simp only [to_MessageS h.2.2.2.2.1, to_PathS h.2.2.2.2.2.1, to_RevocationS h.2.2.2.2.2.2.2.2, obind_some, peta]

theorem eq_ByteS {l : den (.sl tb)} (h : SmB 4611686018427387904 (.sl tb) l) : l_eqByteS l l = some true := eqL_refl (eqE := (fun x y => some (x == y))) h.1 fun x hx => by simp

theorem eq_Message {x : den tMessage} (h : SmB 4611686018427387904 tMessage x) : l_eqMessage x x = some true := by
  unfold l_eqMessage
  simp [eq_ByteS h]

theorem eq_MessageS {l : den (.sl tMessage)} (h : SmB 4611686018427387904 (.sl tMessage) l) : l_eqMessageS l l = some true := eqL_refl (eqE := l_eqMessage) h.1 fun x hx => eq_Message (h.2 x hx)

theorem eq_Hop {x : den tHop} (h : SmB 4611686018427387904 tHop x) : l_eqHop x x = some true := by
  unfold l_eqHop
  simp

theorem eq_HopS {l : den (.sl tHop)} (h : SmB 4611686018427387904 (.sl tHop) l) : l_eqHopS l l = some true := eqL_refl (eqE := l_eqHop) h.1 fun x hx => eq_Hop (h.2 x hx)

theorem eq_PathPart {x : den tPathPart} (h : SmB 4611686018427387904 tPathPart x) : l_eqPathPart x x = some true := by
  unfold l_eqPathPart
  simp [eq_HopS h.2.2.2]

theorem eq_PathPartS {l : den (.sl tPathPart)} (h : SmB 4611686018427387904 (.sl tPathPart) l) : l_eqPathPartS l l = some true := eqL_refl (eqE := l_eqPathPart) h.1 fun x hx => eq_PathPart (h.2 x hx)

theorem eq_Path {x : den tPath} (h : SmB 4611686018427387904 tPath x) : l_eqPath x x = some true := by
  unfold l_eqPath
  simp [eq_PathPartS h]

theorem eq_PathS {l : den (.sl tPath)} (h : SmB 4611686018427387904 (.sl tPath) l) : l_eqPathS l l = some true := eqL_refl (eqE := l_eqPath) h.1 fun x hx => eq_Path (h.2 x hx)

theorem eq_Revocation {x : den tRevocation} (h : SmB 4611686018427387904 tRevocation x) : l_eqRevocation x x = some true := by
  unfold l_eqRevocation
  simp

theorem eq_RevocationS {l : den (.sl tRevocation)} (h : SmB 4611686018427387904 (.sl tRevocation) l) : l_eqRevocationS l l = some true := eqL_refl (eqE := l_eqRevocation) h.1 fun x hx => eq_Revocation (h.2 x hx)

theorem eq_Flow {x : den tFlow} (h : SmB 4611686018427387904 tFlow x) : l_eqFlow x x = some true := by
  unfold l_eqFlow
  simp [eq_MessageS h.2.2.2.2.1, eq_PathS h.2.2.2.2.2.1, eq_RevocationS h.2.2.2.2.2.2.2.2]

theorem mark_ByteS {l : den (.sl tb)} {k : Int} (h : SmB 4611686018427387904 (.sl tb) l) (hk : 0 ≤ k) (hb : k + ((lv (.sl tb) l : Nat) : Int) ≤ 4611686018427387904) : l_markByteS l k = some (k + ((lv (.sl tb) l : Nat) : Int), mkT (.sl tb) l k) := by
  have hc := cntAll_sum (lv tb) l
  have hc : k + ((cntAll (lv tb) l : Nat) : Int) = k + ((lv (.sl tb) l : Nat) : Int) := by rw [hc]; rfl
  unfold l_markByteS
  rw [mark0 (cE := lv tb) (mE := mkT tb) (SmB 4611686018427387904 tb) (fun k i L x hx hi hN hk hb hp => by
      have hd : decide ((i : Int) < (L.length : Int)) = true := by simpa using hi
      have hd0 : decide ((0 : Int) ≤ (i : Int)) = true := by simp
      have hw : IntKind.i64.wrap ((i : Int) + 1) = ((i + 1 : Nat) : Int) := by rw [wrap_in (by omega) (by omega)]; omega
      have hl : k + ((lv tb x : Nat) : Int) = k + 1 := by simp only [lv] <;> omega
      rw [hl] at hb
      rw [hl]
      have hE : mkT tb x k = IntKind.u8.wrap (k) := by first | rfl | (simp [mkT, lv]; try omega)
      have f0 : IntKind.i64.wrap (k + 1) = k + 1 := wrap_in (by omega) (by omega)
      rw [hE]
      simp only [hd, hd0, hw, cond_true, Int.toNat_natCast, hx, obind_some, List.length_set, List.getElem?_set_self hi, List.set_set, f0]) (fun k L => by simp) h.1 h.2 hk (by rw [hc]; exact hb), hc]
  rfl

theorem mark_MessageS {l : den (.sl tMessage)} {k : Int} (h : SmB 4611686018427387904 (.sl tMessage) l) (hk : 0 ≤ k) (hb : k + ((lv (.sl tMessage) l : Nat) : Int) ≤ 4611686018427387904) : l_markMessageS l k = some (k + ((lv (.sl tMessage) l : Nat) : Int), mkT (.sl tMessage) l k) := by
  have hc := cntAll_sum (lv tMessage) l
  have hc : k + ((cntAll (lv tMessage) l : Nat) : Int) = k + ((lv (.sl tMessage) l : Nat) : Int) := by rw [hc]; rfl
  unfold l_markMessageS
  rw [mark0 (cE := lv tMessage) (mE := mkT tMessage) (SmB 4611686018427387904 tMessage) (fun k i L x hx hi hN hk hb hp => by
      have hd : decide ((i : Int) < (L.length : Int)) = true := by simpa using hi
      have hd0 : decide ((0 : Int) ≤ (i : Int)) = true := by simp
      have hw : IntKind.i64.wrap ((i : Int) + 1) = ((i + 1 : Nat) : Int) := by rw [wrap_in (by omega) (by omega)]; omega
      have hl : k + ((lv tMessage x : Nat) : Int) = k + ((lv (.sl tb) x : Nat) : Int) := by simp only [lv] <;> omega
      rw [hl] at hb
      rw [hl]
      have hE : mkT tMessage x k = mkT (.sl tb) x (k) := by first | rfl | (simp [mkT, lv]; try omega)
      have f0 := mark_ByteS (l := x) (k := k) hp (by omega) (by omega)
      rw [hE]
      simp only [hd, hd0, hw, cond_true, Int.toNat_natCast, hx, obind_some, List.length_set, List.getElem?_set_self hi, List.set_set, f0]) (fun k L => by simp) h.1 h.2 hk (by rw [hc]; exact hb), hc]
  rfl

theorem mark_HopS {l : den (.sl tHop)} {k : Int} (h : SmB 4611686018427387904 (.sl tHop) l) (hk : 0 ≤ k) (hb : k + ((lv (.sl tHop) l : Nat) : Int) ≤ 4611686018427387904) : l_markHopS l k = some (k + ((lv (.sl tHop) l : Nat) : Int), mkT (.sl tHop) l k) := by
  have hc := cntAll_sum (lv tHop) l
  have hc : k + ((cntAll (lv tHop) l : Nat) : Int) = k + ((lv (.sl tHop) l : Nat) : Int) := by rw [hc]; rfl
  unfold l_markHopS
  rw [mark0 (cE := lv tHop) (mE := mkT tHop) (SmB 4611686018427387904 tHop) (fun k i L x hx hi hN hk hb hp => by
      have hd : decide ((i : Int) < (L.length : Int)) = true := by simpa using hi
      have hd0 : decide ((0 : Int) ≤ (i : Int)) = true := by simp
      have hw : IntKind.i64.wrap ((i : Int) + 1) = ((i + 1 : Nat) : Int) := by rw [wrap_in (by omega) (by omega)]; omega
      have hl : k + ((lv tHop x : Nat) : Int) = k + 1 + 1 + 1 + 1 + 1 := by simp only [lv] <;> omega
      rw [hl] at hb
      rw [hl]
      have hE : mkT tHop x k = (k, k + 1, k + 1 + 1, k + 1 + 1 + 1, k + 1 + 1 + 1 + 1) := by first | rfl | (simp [mkT, lv]; try omega)
      have f0 : IntKind.i64.wrap (k + 1) = k + 1 := wrap_in (by omega) (by omega)
      have f1 : IntKind.i64.wrap (k + 1 + 1) = k + 1 + 1 := wrap_in (by omega) (by omega)
      have f2 : IntKind.i64.wrap (k + 1 + 1 + 1) = k + 1 + 1 + 1 := wrap_in (by omega) (by omega)
      have f3 : IntKind.i64.wrap (k + 1 + 1 + 1 + 1) = k + 1 + 1 + 1 + 1 := wrap_in (by omega) (by omega)
      have f4 : IntKind.i64.wrap (k + 1 + 1 + 1 + 1 + 1) = k + 1 + 1 + 1 + 1 + 1 := wrap_in (by omega) (by omega)
      rw [hE]
      simp only [hd, hd0, hw, cond_true, Int.toNat_natCast, hx, obind_some, List.length_set, List.getElem?_set_self hi, List.set_set, f0, f1, f2, f3, f4]) (fun k L => by simp) h.1 h.2 hk (by rw [hc]; exact hb), hc]
  rfl

theorem mark_PathPartS {l : den (.sl tPathPart)} {k : Int} (h : SmB 4611686018427387904 (.sl tPathPart) l) (hk : 0 ≤ k) (hb : k + ((lv (.sl tPathPart) l : Nat) : Int) ≤ 4611686018427387904) : l_markPathPartS l k = some (k + ((lv (.sl tPathPart) l : Nat) : Int), mkT (.sl tPathPart) l k) := by
  have hc := cntAll_sum (lv tPathPart) l
  have hc : k + ((cntAll (lv tPathPart) l : Nat) : Int) = k + ((lv (.sl tPathPart) l : Nat) : Int) := by rw [hc]; rfl
  unfold l_markPathPartS
  rw [mark0 (cE := lv tPathPart) (mE := mkT tPathPart) (SmB 4611686018427387904 tPathPart) (fun k i L x hx hi hN hk hb hp => by
      have hd : decide ((i : Int) < (L.length : Int)) = true := by simpa using hi
      have hd0 : decide ((0 : Int) ≤ (i : Int)) = true := by simp
      have hw : IntKind.i64.wrap ((i : Int) + 1) = ((i + 1 : Nat) : Int) := by rw [wrap_in (by omega) (by omega)]; omega
      have hl : k + ((lv tPathPart x : Nat) : Int) = k + 1 + 1 + 1 + ((lv (.sl tHop) x.2.2.2 : Nat) : Int) := by simp only [lv] <;> omega
      rw [hl] at hb
      rw [hl]
      have hE : mkT tPathPart x k = (k, k + 1, k + 1 + 1, mkT (.sl tHop) x.2.2.2 (k + 1 + 1 + 1)) := by first | rfl | (simp [mkT, lv]; try omega)
      have f0 : IntKind.i64.wrap (k + 1) = k + 1 := wrap_in (by omega) (by omega)
      have f1 : IntKind.i64.wrap (k + 1 + 1) = k + 1 + 1 := wrap_in (by omega) (by omega)
      have f2 : IntKind.i64.wrap (k + 1 + 1 + 1) = k + 1 + 1 + 1 := wrap_in (by omega) (by omega)
      have f3 := mark_HopS (l := x.2.2.2) (k := k + 1 + 1 + 1) hp.2.2.2 (by omega) (by omega)
      rw [hE]
      simp only [hd, hd0, hw, cond_true, Int.toNat_natCast, hx, obind_some, List.length_set, List.getElem?_set_self hi, List.set_set, f0, f1, f2, f3]) (fun k L => by simp) h.1 h.2 hk (by rw [hc]; exact hb), hc]
  rfl

theorem mark_PathS {l : den (.sl tPath)} {k : Int} (h : SmB 4611686018427387904 (.sl tPath) l) (hk : 0 ≤ k) (hb : k + ((lv (.sl tPath) l : Nat) : Int) ≤ 4611686018427387904) : l_markPathS l k = some (k + ((lv (.sl tPath) l : Nat) : Int), mkT (.sl tPath) l k) := by
  have hc := cntAll_sum (lv tPath) l
  have hc : k + ((cntAll (lv tPath) l : Nat) : Int) = k + ((lv (.sl tPath) l : Nat) : Int) := by rw [hc]; rfl
  unfold l_markPathS
  rw [mark0 (cE := lv tPath) (mE := mkT tPath) (SmB 4611686018427387904 tPath) (fun k i L x hx hi hN hk hb hp => by
      have hd : decide ((i : Int) < (L.length : Int)) = true := by simpa using hi
      have hd0 : decide ((0 : Int) ≤ (i : Int)) = true := by simp
      have hw : IntKind.i64.wrap ((i : Int) + 1) = ((i + 1 : Nat) : Int) := by rw [wrap_in (by omega) (by omega)]; omega
      have hl : k + ((lv tPath x : Nat) : Int) = k + ((lv (.sl tPathPart) x : Nat) : Int) := by simp only [lv] <;> omega
      rw [hl] at hb
      rw [hl]
      have hE : mkT tPath x k = mkT (.sl tPathPart) x (k) := by first | rfl | (simp [mkT, lv]; try omega)
      have f0 := mark_PathPartS (l := x) (k := k) hp (by omega) (by omega)
      rw [hE]
      simp only [hd, hd0, hw, cond_true, Int.toNat_natCast, hx, obind_some, List.length_set, List.getElem?_set_self hi, List.set_set, f0]) (fun k L => by simp) h.1 h.2 hk (by rw [hc]; exact hb), hc]
  rfl

theorem mark_RevocationS {l : den (.sl tRevocation)} {k : Int} (h : SmB 4611686018427387904 (.sl tRevocation) l) (hk : 0 ≤ k) (hb : k + ((lv (.sl tRevocation) l : Nat) : Int) ≤ 4611686018427387904) : l_markRevocationS l k = some (k + ((lv (.sl tRevocation) l : Nat) : Int), mkT (.sl tRevocation) l k) := by
  have hc := cntAll_sum (lv tRevocation) l
  have hc : k + ((cntAll (lv tRevocation) l : Nat) : Int) = k + ((lv (.sl tRevocation) l : Nat) : Int) := by rw [hc]; rfl
  unfold l_markRevocationS
  rw [mark0 (cE := lv tRevocation) (mE := mkT tRevocation) (SmB 4611686018427387904 tRevocation) (fun k i L x hx hi hN hk hb hp => by
      have hd : decide ((i : Int) < (L.length : Int)) = true := by simpa using hi
      have hd0 : decide ((0 : Int) ≤ (i : Int)) = true := by simp
      have hw : IntKind.i64.wrap ((i : Int) + 1) = ((i + 1 : Nat) : Int) := by rw [wrap_in (by omega) (by omega)]; omega
      have hl : k + ((lv tRevocation x : Nat) : Int) = k + 1 + 1 + 1 := by simp only [lv] <;> omega
      rw [hl] at hb
      rw [hl]
      have hE : mkT tRevocation x k = (k, k + 1, k + 1 + 1) := by first | rfl | (simp [mkT, lv]; try omega)
      have f0 : IntKind.i64.wrap (k + 1) = k + 1 := wrap_in (by omega) (by omega)
      have f1 : IntKind.i64.wrap (k + 1 + 1) = k + 1 + 1 := wrap_in (by omega) (by omega)
      have f2 : IntKind.i64.wrap (k + 1 + 1 + 1) = k + 1 + 1 + 1 := wrap_in (by omega) (by omega)
      rw [hE]
      simp only [hd, hd0, hw, cond_true, Int.toNat_natCast, hx, obind_some, List.length_set, List.getElem?_set_self hi, List.set_set, f0, f1, f2]) (fun k L => by simp) h.1 h.2 hk (by rw [hc]; exact hb), hc]
  rfl

theorem mark_Flow {x : den tFlow} {k : Int} (h : SmB 4611686018427387904 tFlow x) (hk : 0 ≤ k) (hb : k + ((lv (.sl tMessage) x.2.2.2.2.1 : Nat) : Int) + ((lv (.sl tPath) x.2.2.2.2.2.1 : Nat) : Int) + ((lv (.sl tRevocation) x.2.2.2.2.2.2.2.2 : Nat) : Int) ≤ 4611686018427387904) : l_markFlow x k = some (k + ((lv (.sl tMessage) x.2.2.2.2.1 : Nat) : Int) + ((lv (.sl tPath) x.2.2.2.2.2.1 : Nat) : Int) + ((lv (.sl tRevocation) x.2.2.2.2.2.2.2.2 : Nat) : Int), mkT (.sl tMessage) x.2.2.2.2.1 (k), mkT (.sl tPath) x.2.2.2.2.2.1 (k + ((lv (.sl tMessage) x.2.2.2.2.1 : Nat) : Int)), mkT (.sl tRevocation) x.2.2.2.2.2.2.2.2 (k + ((lv (.sl tMessage) x.2.2.2.2.1 : Nat) : Int) + ((lv (.sl tPath) x.2.2.2.2.2.1 : Nat) : Int))) := by
  have q0 := mark_MessageS (l := x.2.2.2.2.1) (k := k) h.2.2.2.2.1 (by omega) (by omega)
  have q1 := mark_PathS (l := x.2.2.2.2.2.1) (k := k + ((lv (.sl tMessage) x.2.2.2.2.1 : Nat) : Int)) h.2.2.2.2.2.1 (by omega) (by omega)
  have q2 := mark_RevocationS (l := x.2.2.2.2.2.2.2.2) (k := k + ((lv (.sl tMessage) x.2.2.2.2.1 : Nat) : Int) + ((lv (.sl tPath) x.2.2.2.2.2.1 : Nat) : Int)) h.2.2.2.2.2.2.2.2 (by omega) (by omega)
  unfold l_markFlow
  simp only [q0, q1, q2, obind_some, peta]

theorem held_ByteS {l : den (.sl tb)} {k : Int} (h : SmB 4611686018427387904 (.sl tb) l) (hk : 0 ≤ k) (hb : k + ((lv (.sl tb) l : Nat) : Int) ≤ 4611686018427387904) : l_heldByteS (mkT (.sl tb) l k) k = some (k + ((lv (.sl tb) l : Nat) : Int)) := by
  have hc := cntAll_sum (lv tb) l
  have hc : k + ((cntAll (lv tb) l : Nat) : Int) = k + ((lv (.sl tb) l : Nat) : Int) := by rw [hc]; rfl
  unfold l_heldByteS
  have := held0 (cE := lv tb) (mE := mkT tb) (SmB 4611686018427387904 tb) (fun (a_a : List Int) => fun (s3 : Int × Int) => cond (decide (s3.2 < (a_a.length : Int))) (Option.bind (idx a_a s3.2) fun x4 => cond (x4 != (IntKind.wrap .u8 s3.1)) (some (Sum.inr (Sum.inr (-1 : Int)))) (some (Sum.inl (wr (s3.1 + (1 : Int)), wr (s3.2 + (1 : Int)))))) (some (Sum.inr (Sum.inl s3.1)))) (l := l) (k := k) (fun k i L x hx hi hN hk hb hp => by
      have hd : decide ((i : Int) < (L.length : Int)) = true := by simpa using hi
      have hd0 : decide ((0 : Int) ≤ (i : Int)) = true := by simp
      have hw : IntKind.i64.wrap ((i : Int) + 1) = ((i + 1 : Nat) : Int) := by rw [wrap_in (by omega) (by omega)]; omega
      have hl : k + ((lv tb x : Nat) : Int) = k + 1 := by simp only [lv] <;> omega
      rw [hl] at hb
      rw [hl]
      have hE : mkT tb x k = IntKind.u8.wrap (k) := by first | rfl | (simp [mkT, lv]; try omega)
      have f0 : IntKind.i64.wrap (k + 1) = k + 1 := wrap_in (by omega) (by omega)
      rw [hE] at hx
      have hi2 : idx L (i : Int) = some (IntKind.u8.wrap (k)) := by rw [idx_nat]; exact hx
      simp only [hd, hw, hi2, cond_true, obind_some, bne_self_eq_false, cond_false, f0]) (fun k L => by simp) h.1 h.2 hk (by rw [hc]; exact hb)
  rw [hc] at this
  show Option.bind (loopM _ (k, (0 : Int))) _ = _
  rw [show (mkT (.sl tb) l k) = markAll (lv tb) (mkT tb) l k from rfl, this]
  rfl

theorem held_MessageS {l : den (.sl tMessage)} {k : Int} (h : SmB 4611686018427387904 (.sl tMessage) l) (hk : 0 ≤ k) (hb : k + ((lv (.sl tMessage) l : Nat) : Int) ≤ 4611686018427387904) : l_heldMessageS (mkT (.sl tMessage) l k) k = some (k + ((lv (.sl tMessage) l : Nat) : Int)) := by
  have hc := cntAll_sum (lv tMessage) l
  have hc : k + ((cntAll (lv tMessage) l : Nat) : Int) = k + ((lv (.sl tMessage) l : Nat) : Int) := by rw [hc]; rfl
  unfold l_heldMessageS
  have := held0 (cE := lv tMessage) (mE := mkT tMessage) (SmB 4611686018427387904 tMessage) (fun (a_a : List (den tMessage)) => fun (s4 : Int × Int) => cond (decide (s4.2 < (a_a.length : Int))) (Option.bind (idx a_a s4.2) fun x5 => Option.bind (l_heldByteS x5 s4.1) fun y6 => cond (decide (y6 < (0 : Int))) (some (Sum.inr (Sum.inr (-1 : Int)))) (some (Sum.inl (y6, wr (s4.2 + (1 : Int)))))) (some (Sum.inr (Sum.inl s4.1)))) (l := l) (k := k) (fun k i L x hx hi hN hk hb hp => by
      have hd : decide ((i : Int) < (L.length : Int)) = true := by simpa using hi
      have hd0 : decide ((0 : Int) ≤ (i : Int)) = true := by simp
      have hw : IntKind.i64.wrap ((i : Int) + 1) = ((i + 1 : Nat) : Int) := by rw [wrap_in (by omega) (by omega)]; omega
      have hl : k + ((lv tMessage x : Nat) : Int) = k + ((lv (.sl tb) x : Nat) : Int) := by simp only [lv] <;> omega
      rw [hl] at hb
      rw [hl]
      have hE : mkT tMessage x k = mkT (.sl tb) x (k) := by first | rfl | (simp [mkT, lv]; try omega)
      have f0 := held_ByteS (l := x) (k := k) hp (by omega) (by omega)
      have g0 : decide (k + ((lv (.sl tb) x : Nat) : Int) < 0) = false := by simp <;> omega
      rw [hE] at hx
      have hi2 : idx L (i : Int) = some (mkT (.sl tb) x (k)) := by rw [idx_nat]; exact hx
      simp only [hd, hw, hi2, cond_true, obind_some, bne_self_eq_false, cond_false, f0, g0]) (fun k L => by simp) h.1 h.2 hk (by rw [hc]; exact hb)
  rw [hc] at this
  show Option.bind (loopM _ (k, (0 : Int))) _ = _
  rw [show (mkT (.sl tMessage) l k) = markAll (lv tMessage) (mkT tMessage) l k from rfl, this]
  rfl

theorem held_HopS {l : den (.sl tHop)} {k : Int} (h : SmB 4611686018427387904 (.sl tHop) l) (hk : 0 ≤ k) (hb : k + ((lv (.sl tHop) l : Nat) : Int) ≤ 4611686018427387904) : l_heldHopS (mkT (.sl tHop) l k) k = some (k + ((lv (.sl tHop) l : Nat) : Int)) := by
  have hc := cntAll_sum (lv tHop) l
  have hc : k + ((cntAll (lv tHop) l : Nat) : Int) = k + ((lv (.sl tHop) l : Nat) : Int) := by rw [hc]; rfl
  unfold l_heldHopS
  have := held0 (cE := lv tHop) (mE := mkT tHop) (SmB 4611686018427387904 tHop) (fun (a_a : List (den tHop)) => fun (s7 : Int × Int) => cond (decide (s7.2 < (a_a.length : Int))) (Option.bind (idx a_a s7.2) fun x8 => cond (x8.1 != s7.1) (some (Sum.inr (Sum.inr (-1 : Int)))) (Option.bind (idx a_a s7.2) fun x9 => cond (x9.2.1 != (wr (s7.1 + (1 : Int)))) (some (Sum.inr (Sum.inr (-1 : Int)))) (Option.bind (idx a_a s7.2) fun x10 => cond (x10.2.2.1 != (wr ((wr (s7.1 + (1 : Int))) + (1 : Int)))) (some (Sum.inr (Sum.inr (-1 : Int)))) (Option.bind (idx a_a s7.2) fun x11 => cond (x11.2.2.2.1 != (wr ((wr ((wr (s7.1 + (1 : Int))) + (1 : Int))) + (1 : Int)))) (some (Sum.inr (Sum.inr (-1 : Int)))) (Option.bind (idx a_a s7.2) fun x12 => cond (x12.2.2.2.2 != (wr ((wr ((wr ((wr (s7.1 + (1 : Int))) + (1 : Int))) + (1 : Int))) + (1 : Int)))) (some (Sum.inr (Sum.inr (-1 : Int)))) (some (Sum.inl (wr ((wr ((wr ((wr ((wr (s7.1 + (1 : Int))) + (1 : Int))) + (1 : Int))) + (1 : Int))) + (1 : Int)), wr (s7.2 + (1 : Int)))))))))) (some (Sum.inr (Sum.inl s7.1)))) (l := l) (k := k) (fun k i L x hx hi hN hk hb hp => by
      have hd : decide ((i : Int) < (L.length : Int)) = true := by simpa using hi
      have hd0 : decide ((0 : Int) ≤ (i : Int)) = true := by simp
      have hw : IntKind.i64.wrap ((i : Int) + 1) = ((i + 1 : Nat) : Int) := by rw [wrap_in (by omega) (by omega)]; omega
      have hl : k + ((lv tHop x : Nat) : Int) = k + 1 + 1 + 1 + 1 + 1 := by simp only [lv] <;> omega
      rw [hl] at hb
      rw [hl]
      have hE : mkT tHop x k = (k, k + 1, k + 1 + 1, k + 1 + 1 + 1, k + 1 + 1 + 1 + 1) := by first | rfl | (simp [mkT, lv]; try omega)
      have f0 : IntKind.i64.wrap (k + 1) = k + 1 := wrap_in (by omega) (by omega)
      have f1 : IntKind.i64.wrap (k + 1 + 1) = k + 1 + 1 := wrap_in (by omega) (by omega)
      have f2 : IntKind.i64.wrap (k + 1 + 1 + 1) = k + 1 + 1 + 1 := wrap_in (by omega) (by omega)
      have f3 : IntKind.i64.wrap (k + 1 + 1 + 1 + 1) = k + 1 + 1 + 1 + 1 := wrap_in (by omega) (by omega)
      have f4 : IntKind.i64.wrap (k + 1 + 1 + 1 + 1 + 1) = k + 1 + 1 + 1 + 1 + 1 := wrap_in (by omega) (by omega)
      rw [hE] at hx
      have hi2 : idx L (i : Int) = some (k, k + 1, k + 1 + 1, k + 1 + 1 + 1, k + 1 + 1 + 1 + 1) := by rw [idx_nat]; exact hx
      simp only [hd, hw, hi2, cond_true, obind_some, bne_self_eq_false, cond_false, f0, f1, f2, f3, f4]) (fun k L => by simp) h.1 h.2 hk (by rw [hc]; exact hb)
  rw [hc] at this
  show Option.bind (loopM _ (k, (0 : Int))) _ = _
  rw [show (mkT (.sl tHop) l k) = markAll (lv tHop) (mkT tHop) l k from rfl, this]
  rfl

theorem held_PathPartS {l : den (.sl tPathPart)} {k : Int} (h : SmB 4611686018427387904 (.sl tPathPart) l) (hk : 0 ≤ k) (hb : k + ((lv (.sl tPathPart) l : Nat) : Int) ≤ 4611686018427387904) : l_heldPathPartS (mkT (.sl tPathPart) l k) k = some (k + ((lv (.sl tPathPart) l : Nat) : Int)) := by
  have hc := cntAll_sum (lv tPathPart) l
  have hc : k + ((cntAll (lv tPathPart) l : Nat) : Int) = k + ((lv (.sl tPathPart) l : Nat) : Int) := by rw [hc]; rfl
  unfold l_heldPathPartS
  have := held0 (cE := lv tPathPart) (mE := mkT tPathPart) (SmB 4611686018427387904 tPathPart) (fun (a_a : List (den tPathPart)) => fun (s7 : Int × Int) => cond (decide (s7.2 < (a_a.length : Int))) (Option.bind (idx a_a s7.2) fun x8 => cond (x8.1 != s7.1) (some (Sum.inr (Sum.inr (-1 : Int)))) (Option.bind (idx a_a s7.2) fun x9 => cond (x9.2.1 != (wr (s7.1 + (1 : Int)))) (some (Sum.inr (Sum.inr (-1 : Int)))) (Option.bind (idx a_a s7.2) fun x10 => cond (x10.2.2.1 != (wr ((wr (s7.1 + (1 : Int))) + (1 : Int)))) (some (Sum.inr (Sum.inr (-1 : Int)))) (Option.bind (idx a_a s7.2) fun x11 => Option.bind (l_heldHopS x11.2.2.2 (wr ((wr ((wr (s7.1 + (1 : Int))) + (1 : Int))) + (1 : Int)))) fun y12 => cond (decide (y12 < (0 : Int))) (some (Sum.inr (Sum.inr (-1 : Int)))) (some (Sum.inl (y12, wr (s7.2 + (1 : Int))))))))) (some (Sum.inr (Sum.inl s7.1)))) (l := l) (k := k) (fun k i L x hx hi hN hk hb hp => by
      have hd : decide ((i : Int) < (L.length : Int)) = true := by simpa using hi
      have hd0 : decide ((0 : Int) ≤ (i : Int)) = true := by simp
      have hw : IntKind.i64.wrap ((i : Int) + 1) = ((i + 1 : Nat) : Int) := by rw [wrap_in (by omega) (by omega)]; omega
      have hl : k + ((lv tPathPart x : Nat) : Int) = k + 1 + 1 + 1 + ((lv (.sl tHop) x.2.2.2 : Nat) : Int) := by simp only [lv] <;> omega
      rw [hl] at hb
      rw [hl]
      have hE : mkT tPathPart x k = (k, k + 1, k + 1 + 1, mkT (.sl tHop) x.2.2.2 (k + 1 + 1 + 1)) := by first | rfl | (simp [mkT, lv]; try omega)
      have f0 : IntKind.i64.wrap (k + 1) = k + 1 := wrap_in (by omega) (by omega)
      have f1 : IntKind.i64.wrap (k + 1 + 1) = k + 1 + 1 := wrap_in (by omega) (by omega)
      have f2 : IntKind.i64.wrap (k + 1 + 1 + 1) = k + 1 + 1 + 1 := wrap_in (by omega) (by omega)
      have f3 := held_HopS (l := x.2.2.2) (k := k + 1 + 1 + 1) hp.2.2.2 (by omega) (by omega)
      have g3 : decide (k + 1 + 1 + 1 + ((lv (.sl tHop) x.2.2.2 : Nat) : Int) < 0) = false := by simp <;> omega
      rw [hE] at hx
      have hi2 : idx L (i : Int) = some (k, k + 1, k + 1 + 1, mkT (.sl tHop) x.2.2.2 (k + 1 + 1 + 1)) := by rw [idx_nat]; exact hx
      simp only [hd, hw, hi2, cond_true, obind_some, bne_self_eq_false, cond_false, f0, f1, f2, f3, g3]) (fun k L => by simp) h.1 h.2 hk (by rw [hc]; exact hb)
  rw [hc] at this
  show Option.bind (loopM _ (k, (0 : Int))) _ = _
  rw [show (mkT (.sl tPathPart) l k) = markAll (lv tPathPart) (mkT tPathPart) l k from rfl, this]
  rfl

theorem held_PathS {l : den (.sl tPath)} {k : Int} (h : SmB 4611686018427387904 (.sl tPath) l) (hk : 0 ≤ k) (hb : k + ((lv (.sl tPath) l : Nat) : Int) ≤ 4611686018427387904) : l_heldPathS (mkT (.sl tPath) l k) k = some (k + ((lv (.sl tPath) l : Nat) : Int)) := by
  have hc := cntAll_sum (lv tPath) l
  have hc : k + ((cntAll (lv tPath) l : Nat) : Int) = k + ((lv (.sl tPath) l : Nat) : Int) := by rw [hc]; rfl
  unfold l_heldPathS
  have := held0 (cE := lv tPath) (mE := mkT tPath) (SmB 4611686018427387904 tPath) (fun (a_a : List (den tPath)) => fun (s4 : Int × Int) => cond (decide (s4.2 < (a_a.length : Int))) (Option.bind (idx a_a s4.2) fun x5 => Option.bind (l_heldPathPartS x5 s4.1) fun y6 => cond (decide (y6 < (0 : Int))) (some (Sum.inr (Sum.inr (-1 : Int)))) (some (Sum.inl (y6, wr (s4.2 + (1 : Int)))))) (some (Sum.inr (Sum.inl s4.1)))) (l := l) (k := k) (fun k i L x hx hi hN hk hb hp => by
      have hd : decide ((i : Int) < (L.length : Int)) = true := by simpa using hi
      have hd0 : decide ((0 : Int) ≤ (i : Int)) = true := by simp
      have hw : IntKind.i64.wrap ((i : Int) + 1) = ((i + 1 : Nat) : Int) := by rw [wrap_in (by omega) (by omega)]; omega
      have hl : k + ((lv tPath x : Nat) : Int) = k + ((lv (.sl tPathPart) x : Nat) : Int) := by simp only [lv] <;> omega
      rw [hl] at hb
      rw [hl]
      have hE : mkT tPath x k = mkT (.sl tPathPart) x (k) := by first | rfl | (simp [mkT, lv]; try omega)
      have f0 := held_PathPartS (l := x) (k := k) hp (by omega) (by omega)
      have g0 : decide (k + ((lv (.sl tPathPart) x : Nat) : Int) < 0) = false := by simp <;> omega
      rw [hE] at hx
      have hi2 : idx L (i : Int) = some (mkT (.sl tPathPart) x (k)) := by rw [idx_nat]; exact hx
      simp only [hd, hw, hi2, cond_true, obind_some, bne_self_eq_false, cond_false, f0, g0]) (fun k L => by simp) h.1 h.2 hk (by rw [hc]; exact hb)
  rw [hc] at this
  show Option.bind (loopM _ (k, (0 : Int))) _ = _
  rw [show (mkT (.sl tPath) l k) = markAll (lv tPath) (mkT tPath) l k from rfl, this]
  rfl

theorem held_RevocationS {l : den (.sl tRevocation)} {k : Int} (h : SmB 4611686018427387904 (.sl tRevocation) l) (hk : 0 ≤ k) (hb : k + ((lv (.sl tRevocation) l : Nat) : Int) ≤ 4611686018427387904) : l_heldRevocationS (mkT (.sl tRevocation) l k) k = some (k + ((lv (.sl tRevocation) l : Nat) : Int)) := by
  have hc := cntAll_sum (lv tRevocation) l
  have hc : k + ((cntAll (lv tRevocation) l : Nat) : Int) = k + ((lv (.sl tRevocation) l : Nat) : Int) := by rw [hc]; rfl
  unfold l_heldRevocationS
  have := held0 (cE := lv tRevocation) (mE := mkT tRevocation) (SmB 4611686018427387904 tRevocation) (fun (a_a : List (den tRevocation)) => fun (s5 : Int × Int) => cond (decide (s5.2 < (a_a.length : Int))) (Option.bind (idx a_a s5.2) fun x6 => cond (x6.1 != s5.1) (some (Sum.inr (Sum.inr (-1 : Int)))) (Option.bind (idx a_a s5.2) fun x7 => cond (x7.2.1 != (wr (s5.1 + (1 : Int)))) (some (Sum.inr (Sum.inr (-1 : Int)))) (Option.bind (idx a_a s5.2) fun x8 => cond (x8.2.2 != (wr ((wr (s5.1 + (1 : Int))) + (1 : Int)))) (some (Sum.inr (Sum.inr (-1 : Int)))) (some (Sum.inl (wr ((wr ((wr (s5.1 + (1 : Int))) + (1 : Int))) + (1 : Int)), wr (s5.2 + (1 : Int)))))))) (some (Sum.inr (Sum.inl s5.1)))) (l := l) (k := k) (fun k i L x hx hi hN hk hb hp => by
      have hd : decide ((i : Int) < (L.length : Int)) = true := by simpa using hi
      have hd0 : decide ((0 : Int) ≤ (i : Int)) = true := by simp
      have hw : IntKind.i64.wrap ((i : Int) + 1) = ((i + 1 : Nat) : Int) := by rw [wrap_in (by omega) (by omega)]; omega
      have hl : k + ((lv tRevocation x : Nat) : Int) = k + 1 + 1 + 1 := by simp only [lv] <;> omega
      rw [hl] at hb
      rw [hl]
      have hE : mkT tRevocation x k = (k, k + 1, k + 1 + 1) := by first | rfl | (simp [mkT, lv]; try omega)
      have f0 : IntKind.i64.wrap (k + 1) = k + 1 := wrap_in (by omega) (by omega)
      have f1 : IntKind.i64.wrap (k + 1 + 1) = k + 1 + 1 := wrap_in (by omega) (by omega)
      have f2 : IntKind.i64.wrap (k + 1 + 1 + 1) = k + 1 + 1 + 1 := wrap_in (by omega) (by omega)
      rw [hE] at hx
      have hi2 : idx L (i : Int) = some (k, k + 1, k + 1 + 1) := by rw [idx_nat]; exact hx
      simp only [hd, hw, hi2, cond_true, obind_some, bne_self_eq_false, cond_false, f0, f1, f2]) (fun k L => by simp) h.1 h.2 hk (by rw [hc]; exact hb)
  rw [hc] at this
  show Option.bind (loopM _ (k, (0 : Int))) _ = _
  rw [show (mkT (.sl tRevocation) l k) = markAll (lv tRevocation) (mkT tRevocation) l k from rfl, this]
  rfl

theorem held_Flow {x : den tFlow} {k : Int} (h : SmB 4611686018427387904 tFlow x) (hk : 0 ≤ k) (hb : k + ((lv (.sl tMessage) x.2.2.2.2.1 : Nat) : Int) + ((lv (.sl tPath) x.2.2.2.2.2.1 : Nat) : Int) + ((lv (.sl tRevocation) x.2.2.2.2.2.2.2.2 : Nat) : Int) ≤ 4611686018427387904) : l_heldFlow (x.1, x.2.1, x.2.2.1, x.2.2.2.1, mkT (.sl tMessage) x.2.2.2.2.1 (k), mkT (.sl tPath) x.2.2.2.2.2.1 (k + ((lv (.sl tMessage) x.2.2.2.2.1 : Nat) : Int)), x.2.2.2.2.2.2.1, x.2.2.2.2.2.2.2.1, mkT (.sl tRevocation) x.2.2.2.2.2.2.2.2 (k + ((lv (.sl tMessage) x.2.2.2.2.1 : Nat) : Int) + ((lv (.sl tPath) x.2.2.2.2.2.1 : Nat) : Int))) k = some (k + ((lv (.sl tMessage) x.2.2.2.2.1 : Nat) : Int) + ((lv (.sl tPath) x.2.2.2.2.2.1 : Nat) : Int) + ((lv (.sl tRevocation) x.2.2.2.2.2.2.2.2 : Nat) : Int)) := by
  have q0 := held_MessageS (l := x.2.2.2.2.1) (k := k) h.2.2.2.2.1 (by omega) (by omega)
  have q1 := held_PathS (l := x.2.2.2.2.2.1) (k := k + ((lv (.sl tMessage) x.2.2.2.2.1 : Nat) : Int)) h.2.2.2.2.2.1 (by omega) (by omega)
  have q2 := held_RevocationS (l := x.2.2.2.2.2.2.2.2) (k := k + ((lv (.sl tMessage) x.2.2.2.2.1 : Nat) : Int) + ((lv (.sl tPath) x.2.2.2.2.2.1 : Nat) : Int)) h.2.2.2.2.2.2.2.2 (by omega) (by omega)
  have d0 : decide (k + ((lv (.sl tMessage) x.2.2.2.2.1 : Nat) : Int) < 0) = false := by simp <;> omega
  have d1 : decide (k + ((lv (.sl tMessage) x.2.2.2.2.1 : Nat) : Int) + ((lv (.sl tPath) x.2.2.2.2.2.1 : Nat) : Int) < 0) = false := by simp <;> omega
  have d2 : decide (k + ((lv (.sl tMessage) x.2.2.2.2.1 : Nat) : Int) + ((lv (.sl tPath) x.2.2.2.2.2.1 : Nat) : Int) + ((lv (.sl tRevocation) x.2.2.2.2.2.2.2.2 : Nat) : Int) < 0) = false := by simp <;> omega
  unfold l_heldFlow
  simp only [q0, q1, q2, d0, d1, d2, obind_some, peta, cond_false]

def inR (n a b : Int) : Bool := decide (a ≤ n) && decide (n ≤ b)

theorem i_in (n a b : Int) : i_InRange n a b = some (inR n a b) := by
  unfold i_InRange inR
  by_cases h : a ≤ n <;> simp [h]

theorem s_in (n a b : Int) : s_l1In n a b = some (inR n a b) := by
  unfold s_l1In inR
  by_cases h : a ≤ n <;> simp [h]

theorem inR_iff {n a b : Int} : inR n a b = true ↔ a ≤ n ∧ n ≤ b := by simp [inR]

theorem i_min (a b : Int) : i_Min a b = some (if b < a then b else a) := rfl

theorem s_min (a b : Int) : s_Min a b = some (if b < a then b else a) := by
  unfold s_Min
  by_cases h : b < a <;> simp [h]

theorem i_copyB {b : List Int} (h : b.length ≤ 68719476736) : i_copyBytes b = some b := by
  unfold i_copyBytes
  rw [apOk_le (by decide) (by simpa using h)]; simp

theorem i_copyH {l : List (den tHop)} (h : l.length ≤ 68719476736) : i_copyHops l = some l := by
  unfold i_copyHops
  rw [apOk_le (by decide) (by simpa using h)]; simp

theorem i_copyV {l : List (den tRevocation)} (h : l.length ≤ 68719476736) : i_copyRevocations l = some l := by
  unfold i_copyRevocations
  rw [apOk_le (by decide) (by simpa using h)]; simp

theorem s_copyPt {p : den tPathPart} (h : SmB 68719476736 tPathPart p) : s_l21Copy p = some p := by
  unfold s_l21Copy
  rw [apOk_le (by decide) (by simpa using h.2.2.2.1)]; simp

theorem i_copyP {p : den tPath} (h : SmB 68719476736 tPath p) : i_copyPath p = some p := by
  unfold i_copyPath
  rw [(loopF (fun k (a : List (den tPathPart)) => ((k : Int), a)) ((0 : Int), []) [] p (fun _ x a => a ++ [x]) List.length (fun _ => 1) 68719476736 id rfl (Nat.le_trans h.1 (by decide)) (by rw [sum_one]; simpa using h.1) (fun k x a hi hx hd hw hk hb => by
    have e := h.2 x (List.mem_of_getElem? hx)
    simp only [hd, hi, hw, cond_true, obind_some, i_copyH e.2.2.2.1, peta, apOk_le (b := 48) (by decide) hb]
    simp) (fun a => by simp)).1, foldI_map (fun x => x)]
  simp

theorem s_copyP {p : den tPath} (h : SmB 68719476736 tPath p) : s_l22Copy p = some p := by
  unfold s_l22Copy
  rw [(loopF (fun k (a : List (den tPathPart)) => ((k : Int), a)) ((0 : Int), []) [] p (fun _ x a => a ++ [x]) List.length (fun _ => 1) 68719476736 id rfl (Nat.le_trans h.1 (by decide)) (by rw [sum_one]; simpa using h.1) (fun k x a hi hx hd hw hk hb => by
    have e := h.2 x (List.mem_of_getElem? hx)
    simp only [hd, hi, hw, cond_true, obind_some, peta, s_copyPt e, apOk_le (b := 48) (by decide) hb]
    simp) (fun a => by simp)).1, foldI_map (fun x => x)]
  simp

theorem i_copyPs {l : List (den tPath)} (h : SmB 68719476736 (.sl tPath) l) : i_copyPaths l = some l := by
  unfold i_copyPaths
  rw [(loopF (fun k (a : List (den tPath)) => ((k : Int), a)) ((0 : Int), []) [] l (fun _ x a => a ++ [x]) List.length (fun _ => 1) 68719476736 id rfl (Nat.le_trans h.1 (by decide)) (by rw [sum_one]; simpa using h.1) (fun k x a hi hx hd hw hk hb => by
    have e := h.2 x (List.mem_of_getElem? hx)
    simp only [hd, hi, hw, cond_true, obind_some, i_copyP e, apOk_le (b := 24) (by decide) hb]
    simp) (fun a => by simp)).1, foldI_map (fun x => x)]
  simp

theorem s_copyPs {l : List (den tPath)} (h : SmB 68719476736 (.sl tPath) l) : s_l24Copy l = some l := by
  unfold s_l24Copy
  rw [(loopF (fun k (a : List (den tPath)) => ((k : Int), a)) ((0 : Int), []) [] l (fun _ x a => a ++ [x]) List.length (fun _ => 1) 68719476736 id rfl (Nat.le_trans h.1 (by decide)) (by rw [sum_one]; simpa using h.1) (fun k x a hi hx hd hw hk hb => by
    have e := h.2 x (List.mem_of_getElem? hx)
    simp only [hd, hi, hw, cond_true, obind_some, s_copyP e, apOk_le (b := 24) (by decide) hb]
    simp) (fun a => by simp)).1, foldI_map (fun x => x)]
  simp

theorem i_copyM {l : List (den tMessage)} (h : SmB 68719476736 (.sl tMessage) l) : i_copyMessages l = some l := by
  unfold i_copyMessages
  rw [(loopF (fun k (a : List (den tMessage)) => ((k : Int), a)) ((0 : Int), []) [] l (fun _ x a => a ++ [x]) List.length (fun _ => 1) 68719476736 id rfl (Nat.le_trans h.1 (by decide)) (by rw [sum_one]; simpa using h.1) (fun k x a hi hx hd hw hk hb => by
    have e := h.2 x (List.mem_of_getElem? hx)
    simp only [hd, hi, hw, cond_true, obind_some, i_copyB e.1, apOk_le (b := 24) (by decide) hb]
    simp) (fun a => by simp)).1, foldI_map (fun x => x)]
  simp

theorem s_copyM {l : List (den tMessage)} (h : SmB 68719476736 (.sl tMessage) l) : s_l35Texts l = some l := by
  unfold s_l35Texts
  rw [(loopF (fun k (a : List (den tMessage)) => ((k : Int), a)) ((0 : Int), []) [] l (fun _ x a => a ++ [x]) List.length (fun _ => 1) 68719476736 id rfl (Nat.le_trans h.1 (by decide)) (by rw [sum_one]; simpa using h.1) (fun k x a hi hx hd hw hk hb => by
    have e := h.2 x (List.mem_of_getElem? hx)
    simp only [hd, hi, hw, cond_true, obind_some, apOk_le (b := 1) (n := ([] : List Int).length) (by decide) (by simpa using e.1), apOk_le (b := 24) (by decide) hb]
    simp) (fun a => by simp)).1, foldI_map (fun x => x)]
  simp

/-- A flow as it is handed back: its slices last. -/
def flowR (f : den tFlow) : Int × Int × Int × Int × Int × Int × (List (den tMessage)) × (List (den tPath)) × (List (den tRevocation)) := (f.1, f.2.1, f.2.2.1, f.2.2.2.1, f.2.2.2.2.2.2.1, f.2.2.2.2.2.2.2.1, f.2.2.2.2.1, f.2.2.2.2.2.1, f.2.2.2.2.2.2.2.2)

theorem i_copyF {f : den tFlow} (h : SmB 68719476736 tFlow f) : i_copyFlow f = some (flowR f) := by
  unfold i_copyFlow flowR
  simp only [i_copyM h.2.2.2.2.1, i_copyPs h.2.2.2.2.2.1, i_copyV h.2.2.2.2.2.2.2.2.1, obind_some]

theorem s_copyF {f : den tFlow} (h : SmB 68719476736 tFlow f) : s_l35Copy f = some (flowR f) := by
  unfold s_l35Copy flowR
  simp only [s_copyM h.2.2.2.2.1, s_copyPs h.2.2.2.2.2.1, obind_some, apOk_le (b := 24) (n := ([] : List (den tRevocation)).length) (by decide) (by simpa using h.2.2.2.2.2.2.2.2.1), cond_true, List.nil_append]

def validV (x : den tRevocation) : Bool := inR x.1 0 7 && (inR x.2.1 1 6 && inR x.2.2 0 1000000)

theorem i_validV (x : den tRevocation) : i_ValidRevocation x = some (validV x) := by
  unfold i_ValidRevocation validV
  simp only [i_in, obind_some]
  cases inR x.1 0 7 <;> cases inR x.2.1 1 6 <;> cases inR x.2.2 0 1000000 <;> rfl

theorem s_validV (x : den tRevocation) : s_ValidRevocation x = some (validV x) := by
  unfold s_ValidRevocation validV
  simp only [s_in, obind_some]
  cases inR x.1 0 7 <;> cases inR x.2.1 1 6 <;> cases inR x.2.2 0 1000000 <;> rfl

/-- A loop that answers false at the first that fails. -/
theorem scanB {α S : Type} (p : Nat → α → Bool) : ∀ (l : List α) (k : Nat) (ρ : S), scanI (fun k x => if p k x then none else some ρ) k l = if (l.zipIdx k).all (fun x => p x.2 x.1) then none else some ρ
  | [], _, _ => rfl
  | x :: xs, k, ρ => by
    simp only [scanI, List.zipIdx_cons, List.all_cons]
    rcases Bool.eq_false_or_eq_true (p k x) with h | h
    · simp only [h, if_true, Bool.true_and]; exact scanB p xs (k + 1) ρ
    · simp [h]

theorem zip_all {α : Type} (p : α → Bool) : ∀ (l : List α) (k : Nat), (l.zipIdx k).all (fun x => p x.1) = l.all p
  | [], _ => rfl
  | x :: xs, k => by simp [List.zipIdx_cons, zip_all p xs]

theorem scanA {α S : Type} (p : α → Bool) (l : List α) (ρ : S) : scanI (fun _ x => if p x then none else some ρ) 0 l = if l.all p then none else some ρ := by
  rw [scanB (fun _ x => p x), zip_all p]

def isRev (k : Int) : Bool := k == 1 || k == 3

theorem i_isRev (k : Int) : i_IsReversed k = some (isRev k) := by
  unfold i_IsReversed isRev
  cases k == 1 <;> rfl

theorem s_isRev (k : Int) : s_IsReversed k = some (isRev k) := by
  unfold s_IsReversed isRev
  cases k == 1 <;> rfl

def pIn (p : den tPathPart) (h : den tHop) : Int := if isRev p.1 then h.2.2.1 else h.2.1

def pEg (p : den tPathPart) (h : den tHop) : Int := if isRev p.1 then h.2.1 else h.2.2.1

theorem wr_len {n : Nat} (h : n ≤ 68719476736) : wr ((n : Int) - 1) = (n : Int) - 1 := wrap_in (by omega) (by omega)

theorem inR_idx {k n : Nat} (h : k < n) : inR (k : Int) 0 ((n : Int) - 1) = true := by rw [inR_iff]; omega

theorem i_pIn {p : den tPathPart} {k : Nat} {h : den tHop} (hk : p.2.2.2[k]? = some h) (hl : p.2.2.2.length ≤ 68719476736) : i_PartIngress p (k : Int) = some (pIn p h) := by
  have hlt : k < p.2.2.2.length := (List.getElem?_eq_some_iff.1 hk).1
  unfold i_PartIngress pIn
  simp only [i_in, wr_len hl, inR_idx hlt, obind_some, Bool.not_true, cond_false, i_isRev, idx_nat, hk]
  cases isRev p.1 <;> rfl

theorem s_pIn {p : den tPathPart} {k : Nat} {h : den tHop} (hk : p.2.2.2[k]? = some h) (hl : p.2.2.2.length ≤ 68719476736) : s_PartIngress p (k : Int) = some (pIn p h) := by
  have hlt : k < p.2.2.2.length := (List.getElem?_eq_some_iff.1 hk).1
  unfold s_PartIngress pIn
  simp only [s_in, wr_len hl, inR_idx hlt, obind_some, Bool.not_true, cond_false, s_isRev, idx_nat, hk]
  cases isRev p.1 <;> rfl

theorem i_pEg {p : den tPathPart} {k : Nat} {h : den tHop} (hk : p.2.2.2[k]? = some h) (hl : p.2.2.2.length ≤ 68719476736) : i_PartEgress p (k : Int) = some (pEg p h) := by
  have hlt : k < p.2.2.2.length := (List.getElem?_eq_some_iff.1 hk).1
  unfold i_PartEgress pEg
  simp only [i_in, wr_len hl, inR_idx hlt, obind_some, Bool.not_true, cond_false, i_isRev, idx_nat, hk]
  cases isRev p.1 <;> rfl

theorem s_pEg {p : den tPathPart} {k : Nat} {h : den tHop} (hk : p.2.2.2[k]? = some h) (hl : p.2.2.2.length ≤ 68719476736) : s_PartEgress p (k : Int) = some (pEg p h) := by
  have hlt : k < p.2.2.2.length := (List.getElem?_eq_some_iff.1 hk).1
  unfold s_PartEgress pEg
  simp only [s_in, wr_len hl, inR_idx hlt, obind_some, Bool.not_true, cond_false, s_isRev, idx_nat, hk]
  cases isRev p.1 <;> rfl

def addS (nf : Bool) (p : den tPathPart) (i : Nat) (h : den tHop) (out : List (den tStep)) : List (den tStep) :=
  match out.getLast? with
  | some z => if nf && (decide (i = 0) && z.1 == h.1) then out.dropLast ++ [(h.1, z.2.1, pEg p h)] else out ++ [(h.1, pIn p h, pEg p h)]
  | none => out ++ [(h.1, pIn p h, pEg p h)]

theorem addS_len (nf : Bool) (p : den tPathPart) (i : Nat) (h : den tHop) (out : List (den tStep)) : (addS nf p i h out).length ≤ out.length + 1 := by
  unfold addS
  split
  · split
    · simp only [List.length_append, List.length_dropLast, List.length_singleton]; omega
    · simp
  · simp

def partS (nf : Bool) (p : den tPathPart) (a : List (den tStep)) : List (den tStep) := foldI (fun i h b => addS nf p i h b) 0 p.2.2.2 a

def steps0 (p : den tPath) : List (den tStep) := foldI (fun k x a => partS (decide (0 < k)) x a) 0 p []

def endS (l : List (den tStep)) : List (den tStep) :=
  match l with
  | [] => []
  | x :: xs => let m := (x.1, 0, x.2.2) :: xs
    match m.getLast? with
    | some y => m.dropLast ++ [(y.1, y.2.1, 0)]
    | none => []

def steps (p : den tPath) : List (den tStep) := endS (steps0 p)

theorem endS_len (l : List (den tStep)) : (endS l).length = l.length := by
  unfold endS
  split
  · rfl
  · rename_i x xs
    simp only
    rw [List.getLast?_eq_some_getLast (by simp)]
    simp

theorem hops_sum (p : den tPath) : (p.map fun x => x.2.2.2.length).sum ≤ tot tPath p := by
  show _ ≤ tot (.sl tPathPart) p
  rw [← tot_sum]
  induction p with
  | nil => exact Nat.le_refl _
  | cons x p ih =>
    simp only [List.map_cons, List.sum_cons]
    have h1 : x.2.2.2.length ≤ tot tPathPart x := by
      show _ ≤ tot ti x.1 + (tot ti x.2.1 + (tot ti x.2.2.1 + tot (.sl tHop) x.2.2.2))
      rw [tot_flatL rfl]; omega
    omega

theorem wr_pos {n : Nat} (h : n ≤ 68719476736) (h0 : 0 < n) : wr ((n : Int) - 1) = ((n - 1 : Nat) : Int) := by
  rw [wr_len h]; omega

theorem wr_last {α : Type} {m : List α} {z : α} (h : (m ++ [z]).length ≤ 68719476736) : wr (((m ++ [z]).length : Int) - 1) = (m.length : Int) := by
  rw [wr_pos h (by simp)]; simp

theorem partS_len (nf : Bool) (p : den tPathPart) (a : List (den tStep)) : (partS nf p a).length ≤ a.length + p.2.2.2.length := by
  have := foldI_m (m := List.length) (cost := fun _ => 1) (fun i h b => addS_len nf p i h b) p.2.2.2 0 a
  rw [sum_one] at this
  exact this

theorem steps0_len (p : den tPath) : (steps0 p).length ≤ tot tPath p := by
  have := foldI_m (m := List.length) (cost := fun x : den tPathPart => x.2.2.2.length) (fun k x a => partS_len (decide (0 < k)) x a) p 0 []
  have h2 := hops_sum p
  have h3 : (steps0 p).length ≤ 0 + (p.map fun x => x.2.2.2.length).sum := this
  omega

theorem steps_len (p : den tPath) : (steps p).length ≤ tot tPath p := by
  unfold steps; rw [endS_len]; exact steps0_len p

theorem dec_pos (k : Nat) : decide ((k : Int) > 0) = decide (0 < k) := by rw [Bool.eq_iff_iff]; simp

theorem dec_zero (i : Nat) : ((i : Int) == 0) = decide (i = 0) := by rw [Bool.eq_iff_iff]; simp

theorem addS_nil (nf : Bool) (p : den tPathPart) (i : Nat) (h : den tHop) : addS nf p i h [] = [(h.1, pIn p h, pEg p h)] := rfl

theorem addS_last (nf : Bool) (p : den tPathPart) (i : Nat) (h : den tHop) (m : List (den tStep)) (z : den tStep) : addS nf p i h (m ++ [z]) = if nf && (decide (i = 0) && z.1 == h.1) then m ++ [(h.1, z.2.1, pEg p h)] else (m ++ [z]) ++ [(h.1, pIn p h, pEg p h)] := by
  unfold addS
  rw [List.getLast?_concat, List.dropLast_concat]

theorem endS_some {m : List (den tStep)} {x z : den tStep} {xs : List (den tStep)} (h : (x.1, (0 : Int), x.2.2) :: xs = m ++ [z]) : endS (x :: xs) = m ++ [(z.1, z.2.1, 0)] := by
  unfold endS
  simp only
  rw [h, List.getLast?_concat, List.dropLast_concat]

theorem i_steps {p : den tPath} (h : tot tPath p ≤ 34359738368) : i_PathSteps p = some (steps p) := by
  have hs := hops_sum p
  have sm : SmB 34359738368 tPath p := sm_of_tot h
  have hl := steps0_len p
  unfold i_PathSteps
  rw [loopG (fun k (a : List (den tStep)) => ((k : Int), a)) ((0 : Int), []) [] p (fun k x a => partS (decide (0 < k)) x a) List.length (fun x => x.2.2.2.length) 34359738368 id rfl (Nat.le_trans sm.1 (by decide)) (by simp only [List.length_nil]; omega) (fun k x a => partS_len _ x a) (fun k x a hi hx hd hw hk hb => by
    have hxl : x.2.2.2.length ≤ 34359738368 := (sm.2 x (List.mem_of_getElem? hx)).2.2.2.1
    simp only [hd, hi, hw, cond_true, obind_some]
    rw [loopG (fun i (b : List (den tStep)) => ((i : Int), b)) ((0 : Int), a) a x.2.2.2 (fun i h b => addS (decide (0 < k)) x i h b) List.length (fun _ => 1) 34359738368 id rfl (Nat.le_trans hxl (by decide)) (by rw [sum_one]; exact hb) (fun i h b => addS_len _ x i h b) (fun i g b hi2 hg hd2 hw2 hk2 hb2 => by
      have hl2 : x.2.2.2.length ≤ 68719476736 := by omega
      simp only [hd2, hi2, hw2, cond_true, obind_some, peta, i_pIn hg hl2, i_pEg hg hl2, dec_pos, dec_zero, apOk_le (b := 24) (n := b.length) (m := 1) (by decide) (by omega)]
      rcases nil_or_concat b with rfl | ⟨m, z, rfl⟩
      · rw [addS_nil]
        cases decide (0 < k) <;> cases decide (i = 0) <;> rfl
      · rw [addS_last, wr_last (by omega)]
        simp only [pos_nat, pos_nat', lt_last, get_last, cond_true, Int.toNat_natCast, obind_some, set_last]
        cases decide (0 < k) <;> cases decide (i = 0) <;> cases hz : z.1 == g.1 <;> simp [hz]
        simpa using hz) (fun b => by simp)]
    rfl) (fun a => by simp)]
  simp only [obind_some, id]
  rw [show foldI (fun k x a => partS (decide (0 < k)) x a) 0 p [] = steps0 p from rfl]
  show _ = some (endS (steps0 p))
  generalize steps0 p = l at hl
  cases l with
  | nil => rfl
  | cons x xs =>
    have e1 : decide ((((x :: xs).length : Nat) : Int) > 0) = true := by simp
    have e2 : decide ((0 : Int) < (((x :: xs).length : Nat) : Int)) = true := by simp
    have e3 : (0 : Int).toNat = 0 := rfl
    have e4 : decide ((0 : Int) ≤ 0) = true := rfl
    simp only [e1, e2, e3, e4, cond_true, List.getElem?_cons_zero, obind_some, List.set_cons_zero]
    rcases nil_or_concat ((x.1, (0 : Int), x.2.2) :: xs) with h0 | ⟨m, z, hm⟩
    · cases h0
    · have hlen : ((x.1, (0 : Int), x.2.2) :: xs).length = (x :: xs).length := rfl
      rw [endS_some hm]
      rw [hm] at hlen ⊢
      rw [wr_last (by omega)]
      simp only [pos_nat, lt_last, get_last, cond_true, Int.toNat_natCast, obind_some, set_last]

theorem s_steps {p : den tPath} (h : tot tPath p ≤ 34359738368) : s_PathSteps p = some (steps p) := by
  have hs := hops_sum p
  have sm : SmB 34359738368 tPath p := sm_of_tot h
  have hl := steps0_len p
  unfold s_PathSteps
  rw [loopG (fun k (a : List (den tStep)) => ((k : Int), a)) ((0 : Int), []) [] p (fun k x a => partS (decide (0 < k)) x a) List.length (fun x => x.2.2.2.length) 34359738368 id rfl (Nat.le_trans sm.1 (by decide)) (by simp only [List.length_nil]; omega) (fun k x a => partS_len _ x a) (fun k x a hi hx hd hw hk hb => by
    have hxl : x.2.2.2.length ≤ 34359738368 := (sm.2 x (List.mem_of_getElem? hx)).2.2.2.1
    simp only [hd, hi, hw, cond_true, obind_some]
    rw [loopG (fun i (b : List (den tStep)) => ((i : Int), b)) ((0 : Int), a) a x.2.2.2 (fun i h b => addS (decide (0 < k)) x i h b) List.length (fun _ => 1) 34359738368 id rfl (Nat.le_trans hxl (by decide)) (by rw [sum_one]; exact hb) (fun i h b => addS_len _ x i h b) (fun i g b hi2 hg hd2 hw2 hk2 hb2 => by
      have hl2 : x.2.2.2.length ≤ 68719476736 := by omega
      simp only [hd2, hi2, hw2, cond_true, obind_some, peta, s_pIn hg hl2, s_pEg hg hl2, both_self, dec_pos, dec_zero]
      rcases nil_or_concat b with rfl | ⟨m, z, rfl⟩
      · rw [addS_nil]
        cases decide (0 < k) <;> cases decide (i = 0) <;> rfl
      · rw [addS_last, wr_last (by omega)]
        have e1 : decide (((m ++ [z]).length : Int) > 0) = true := by simp
        have e2 : slOk (0 : Int) (m.length : Int) ((m ++ [z]).length : Int) = true := by simp [slOk]; omega
        have e3 : (m ++ [z]).take m.length = m := by simp
        have e4 := apOk_le (b := 24) (n := m.length) (m := 1) (by decide) (by simp at hb2; omega)
        have e5 := apOk_le (b := 24) (n := m.length + 1) (m := 1) (by decide) (by simp at hb2; omega)
        simp only [pos_nat, e1, e2, e3, lt_last, get_last, cond_true, Int.toNat_natCast, obind_some]
        cases decide (0 < k) <;> cases decide (i = 0) <;> cases hz : z.1 == g.1 <;> simp [hz, e4, e5]) (fun b => by simp [hi])]
    rfl) (fun a => by simp)]
  simp only [obind_some, id]
  rw [show foldI (fun k x a => partS (decide (0 < k)) x a) 0 p [] = steps0 p from rfl]
  show _ = some (endS (steps0 p))
  generalize steps0 p = l at hl
  cases l with
  | nil => rfl
  | cons x xs =>
    have e1 : decide ((((x :: xs).length : Nat) : Int) > 0) = true := by simp
    have e2 : decide ((0 : Int) < (((x :: xs).length : Nat) : Int)) = true := by simp
    have e3 : (0 : Int).toNat = 0 := rfl
    have e4 : decide ((0 : Int) ≤ 0) = true := rfl
    have e5 : decide (0 < (x :: xs).length) = true := by simp
    simp only [e1, e2, e3, e4, e5, cond_true, List.getElem?_cons_zero, obind_some, List.set_cons_zero]
    rcases nil_or_concat ((x.1, (0 : Int), x.2.2) :: xs) with h0 | ⟨m, z, hm⟩
    · cases h0
    · have hlen : ((x.1, (0 : Int), x.2.2) :: xs).length = (x :: xs).length := rfl
      rw [endS_some hm]
      rw [hm] at hlen ⊢
      rw [wr_last (by omega)]
      have e6 : decide (m.length < (m ++ [z]).length) = true := by simp
      simp only [pos_nat, lt_last, get_last, e6, cond_true, Int.toNat_natCast, obind_some, set_last]

theorem flow_parts {f : den tFlow} {N : Nat} (h : tot tFlow f ≤ N) : tot (.sl tMessage) f.2.2.2.2.1 ≤ N ∧ tot (.sl tPath) f.2.2.2.2.2.1 ≤ N ∧ tot (.sl tRevocation) f.2.2.2.2.2.2.2.2 ≤ N := by
  have h0 := tot_r (tot_r (tot_r (tot_r h)))
  exact ⟨tot_l h0, tot_l (tot_r h0), tot_r (tot_r (tot_r (tot_r h0)))⟩

def numS (s : den tStep) (a : List Int) : List Int :=
  (fun b => cond (s.2.2 != 0) (b ++ [wr (wr (8 * s.1) + s.2.2)]) b) (cond (s.2.1 != 0) (a ++ [wr (wr (8 * s.1) + s.2.1)]) a)

theorem numS_len (s : den tStep) (a : List Int) : (numS s a).length ≤ a.length + 2 := by
  unfold numS
  cases s.2.1 != 0 <;> cases s.2.2 != 0 <;> simp

def usedI (p : den tPath) : List Int := foldI (fun _ s a => numS s a) 0 (steps p) []

theorem sum_two {α : Type} (l : List α) : (l.map fun _ => 2).sum = 2 * l.length := by
  induction l with
  | nil => rfl
  | cons x l ih => simp only [List.map_cons, List.sum_cons, ih, List.length_cons]; omega

theorem i_usedI {p : den tPath} (h : tot tPath p ≤ 1048576) : i_InterfacesUsed p = some (usedI p) := by
  have hl := steps_len p
  unfold i_InterfacesUsed i_numbered usedI
  rw [i_steps (Nat.le_trans h (by decide))]
  simp only [obind_some]
  rw [loopG (fun k (a : List Int) => ((k : Int), a)) ((0 : Int), []) [] (steps p) (fun _ s a => numS s a) List.length (fun _ => 2) 68719476736 id rfl (by omega) (by rw [sum_two]; simp; omega) (fun k x a => numS_len x a) (fun k x a hi hx hd hw hk hb => by
    simp only [hd, hi, hw, cond_true, obind_some, apOk_le (b := 8) (n := a.length) (m := 1) (by decide) (by omega)]
    unfold numS
    cases x.2.1 != 0 <;> cases x.2.2 != 0 <;> simp [apOk_le (b := 8) (n := a.length) (m := 1) (by decide) (by omega), apOk_le (b := 8) (n := a.length + 1) (m := 1) (by decide) (by omega)]) (fun a => by simp)]
  rfl

theorem s_usedI {p : den tPath} (h : tot tPath p ≤ 1048576) : s_InterfacesUsed p = some (usedI p) := by
  have hl := steps_len p
  unfold s_InterfacesUsed usedI
  rw [s_steps (Nat.le_trans h (by decide))]
  simp only [obind_some]
  rw [loopG (fun k (a : List Int) => ((k : Int), a)) ((0 : Int), []) [] (steps p) (fun _ s a => numS s a) List.length (fun _ => 2) 68719476736 id rfl (by omega) (by rw [sum_two]; simp; omega) (fun k x a => numS_len x a) (fun k x a hi hx hd hw hk hb => by
    simp only [hd, hx, hw, cond_true, obind_some, pos_nat, Int.toNat_natCast, apOk_le (b := 8) (n := a.length) (m := 1) (by decide) (by omega)]
    unfold numS
    cases x.2.1 != 0 <;> cases x.2.2 != 0 <;> simp [apOk_le (b := 8) (n := a.length) (m := 1) (by decide) (by omega), apOk_le (b := 8) (n := a.length + 1) (m := 1) (by decide) (by omega)]) (fun a => by simp)]
  rfl

def hasI (l : List Int) (n : Int) : Bool := !(l.all fun x => !(x == n))

theorem i_hasI {l : List Int} {n : Int} (h : l.length ≤ 68719476736) : i_hasInt l n = some (hasI l n) := by
  unfold i_hasInt hasI
  rw [loop_scan (l := l) (fun _ x => if !(x == n) then none else some true) (by omega) (fun k x hi hd hw hm hk => by
    simp only [hd, hi, hw, cond_true, obind_some]
    cases x == n <;> rfl) (by simp), scanA (fun x : Int => !(x == n))]
  cases l.all (fun x => !(x == n)) <;> rfl

theorem s_hasI {l : List Int} {n : Int} (h : l.length ≤ 68719476736) : s_l9Has l n = some (hasI l n) := by
  unfold s_l9Has hasI
  rw [loop_scan (l := l) (fun _ x => if !(x == n) then none else some true) (by omega) (fun k x hi hd hw hm hk => by
    simp only [hd, hi, hw, cond_true, obind_some]
    cases x == n <;> rfl) (by simp), scanA (fun x : Int => !(x == n))]
  cases l.all (fun x => !(x == n)) <;> rfl

theorem usedI_len (p : den tPath) : (usedI p).length ≤ 2 * tot tPath p := by
  have h := foldI_m (f := fun _ s (a : List Int) => numS s a) (m := List.length) (cost := fun _ => 2) (fun k x a => numS_len x a) (steps p) 0 []
  have hl := steps_len p
  rw [sum_two] at h
  unfold usedI
  simp at h
  omega

def affects (p : den tPath) (x : den tRevocation) : Bool := validV x && hasI (usedI p) (wr (wr (8 * x.1) + x.2.1))

theorem i_affects {p : den tPath} {x : den tRevocation} (h : tot tPath p ≤ 1048576) : i_Affects p x = some (affects p x) := by
  have := usedI_len p
  unfold i_Affects affects
  simp only [peta, i_validV, obind_some, i_usedI h, i_hasI (l := usedI p) (by omega)]
  cases validV x <;> rfl

theorem s_affects {p : den tPath} {x : den tRevocation} (h : tot tPath p ≤ 1048576) : s_Affects p x = some (affects p x) := by
  have := usedI_len p
  unfold s_Affects affects
  simp only [peta, s_validV, obind_some, s_usedI h, s_hasI (l := usedI p) (by omega)]
  cases validV x <;> rfl

def modP (n : Int) : Int := Int.tmod (wr ((Int.tmod n 2147483647) + 2147483647)) 2147483647

theorem i_modP (n : Int) : i_Mod n 2147483647 = some (modP n) := by unfold i_Mod; rw [i_in]; rfl

theorem s_modP (n : Int) : s_Mod n 2147483647 = some (modP n) := by unfold s_Mod; rw [s_in]; rfl

def digS (a x : Int) : Int := Int.tmod (wr ((wr ((wr (a * (1000003 : Int))) + modP x)) + (11 : Int))) (2147483647 : Int)

def digest (l : List Int) : Int := foldI (fun _ x a => digS a x) 0 l 7

theorem i_digest {l : List Int} (h : l.length ≤ 68719476736) : i_Digest l = some (digest l) := by
  unfold i_Digest digest
  rw [loopG (fun k (a : Int) => (a, (k : Int))) ((7 : Int), (0 : Int)) 7 l (fun _ x a => digS a x) (fun _ => 0) (fun _ => 0) 1 id rfl (by omega) (by rw [sum_nil]; omega) (fun k x a => by omega) (fun k x a hi hx hd hw hk hb => by
    simp only [hd, hi, hw, cond_true, obind_some, i_modP]
    rfl) (fun a => by simp)]
  rfl

theorem s_digest {l : List Int} (h : l.length ≤ 68719476736) : s_Digest l = some (digest l) := by
  unfold s_Digest digest
  rw [loopG (fun k (a : Int) => (a, (k : Int))) ((7 : Int), (0 : Int)) 7 l (fun _ x a => digS a x) (fun _ => 0) (fun _ => 0) 1 id rfl (by omega) (by rw [sum_nil]; omega) (fun k x a => by omega) (fun k x a hi hx hd hw hk hb => by
    simp only [hd, hi, hw, cond_true, obind_some, s_modP]
    rfl) (fun a => by simp)]
  rfl

def hopD (h : den tHop) (a : List Int) : List Int := a ++ [h.1, h.2.1, h.2.2.1]

def partD (x : den tPathPart) (a : List Int) : List Int := foldI (fun _ h a => hopD h a) 0 x.2.2.2 (a ++ [x.1, x.2.1, x.2.2.1])

def pathD (p : den tPath) : List Int := foldI (fun _ x a => partD x a) 0 p []

theorem sum_k {α : Type} (c : Nat) (l : List α) : (l.map fun _ => c).sum = c * l.length := by
  induction l with
  | nil => rfl
  | cons x l ih => simp only [List.map_cons, List.sum_cons, ih, List.length_cons, Nat.mul_succ]; omega

theorem partD_len (x : den tPathPart) (a : List Int) : (partD x a).length ≤ a.length + (3 + 3 * x.2.2.2.length) := by
  have h := foldI_m (f := fun _ h (a : List Int) => hopD h a) (m := List.length) (cost := fun _ => 3) (fun k x a => by simp [hopD]) x.2.2.2 0 (a ++ [x.1, x.2.1, x.2.2.1])
  rw [sum_k] at h
  unfold partD
  simp at h
  omega

theorem parts_sum : ∀ p : den tPath, (p.map fun x : den tPathPart => 3 + 3 * x.2.2.2.length).sum ≤ 3 * tot tPath p
  | [] => by simp
  | x :: p => by
    have h1 := tot_cons (t := tPathPart) x p
    have h2 : x.2.2.2.length ≤ tot tPathPart x := Nat.le_trans (tot_len (t := tHop) x.2.2.2) (by simp only [tot_pair, tot_int]; omega)
    have h3 := parts_sum p
    simp only [List.map_cons, List.sum_cons]
    show _ ≤ 3 * tot (.sl tPathPart) (x :: p)
    rw [h1]
    have h3 : (p.map fun x : den tPathPart => 3 + 3 * x.2.2.2.length).sum ≤ 3 * tot (.sl tPathPart) p := h3
    omega

theorem pathD_len (p : den tPath) : (pathD p).length ≤ 3 * tot tPath p := by
  have h := foldI_m (f := fun _ x (a : List Int) => partD x a) (m := List.length) (cost := fun x : den tPathPart => 3 + 3 * x.2.2.2.length) (fun k x a => partD_len x a) p 0 []
  have h2 := parts_sum p
  unfold pathD
  simp only [List.length_nil, Nat.zero_add] at h
  omega

theorem i_pathDig {p : den tPath} (h : tot tPath p ≤ 1048576) : i_PathDigest p = some (digest (pathD p)) := by
  have hl := tot_len (t := tPathPart) p
  have hl : p.length ≤ 1048576 := Nat.le_trans hl h
  have hs := parts_sum p
  have hd' := pathD_len p
  unfold i_PathDigest
  rw [loopG (fun k (a : List Int) => ((k : Int), a)) ((0 : Int), []) [] p (fun _ x a => partD x a) List.length (fun x : den tPathPart => 3 + 3 * x.2.2.2.length) 68719476736 id rfl (by omega) (by simp only [List.length_nil]; omega) (fun k x a => partD_len x a) (fun k x a hi hx hd hw hk hb => by
    simp only [hd, hi, hw, cond_true, obind_some, apOk_le (b := 8) (n := a.length) (m := 3) (by decide) (by omega)]
    rw [loopG (fun k (a : List Int) => ((k : Int), a)) ((0 : Int), a ++ [x.1, x.2.1, x.2.2.1]) (a ++ [x.1, x.2.1, x.2.2.1]) x.2.2.2 (fun _ h a => hopD h a) List.length (fun _ => 3) 68719476736 id rfl (by omega) (by rw [sum_k]; simp; omega) (fun k h a => by simp [hopD]) (fun k h a hi hx hd hw hk hb => by
      simp only [hd, hi, hw, cond_true, obind_some, apOk_le (b := 8) (n := a.length) (m := 3) (by decide) (by omega)]
      rfl) (fun a => by simp)]
    rfl) (fun a => by simp)]
  simp only [obind_some]
  rw [show foldI (fun _ x a => partD x a) 0 p [] = pathD p from rfl]
  simp only [id, i_digest (l := pathD p) (by omega), obind_some]

theorem s_pathDig {p : den tPath} (h : tot tPath p ≤ 1048576) : s_PathDigest p = some (digest (pathD p)) := by
  have hl := tot_len (t := tPathPart) p
  have hl : p.length ≤ 1048576 := Nat.le_trans hl h
  have hs := parts_sum p
  have hd' := pathD_len p
  unfold s_PathDigest
  rw [loopG (fun k (a : List Int) => ((k : Int), a)) ((0 : Int), []) [] p (fun _ x a => partD x a) List.length (fun x : den tPathPart => 3 + 3 * x.2.2.2.length) 68719476736 id rfl (by omega) (by simp only [List.length_nil]; omega) (fun k x a => partD_len x a) (fun k x a hi hx hd hw hk hb => by
    simp only [hd, hi, hw, cond_true, obind_some, apOk_le (b := 8) (n := a.length) (m := 3) (by decide) (by omega)]
    rw [loopG (fun k (a : List Int) => ((k : Int), a)) ((0 : Int), a ++ [x.1, x.2.1, x.2.2.1]) (a ++ [x.1, x.2.1, x.2.2.1]) x.2.2.2 (fun _ h a => hopD h a) List.length (fun _ => 3) 68719476736 id rfl (by omega) (by rw [sum_k]; simp; omega) (fun k h a => by simp [hopD]) (fun k h a hi hx hd hw hk hb => by
      simp only [hd, hi, hw, cond_true, obind_some, apOk_le (b := 8) (n := a.length) (m := 3) (by decide) (by omega)]
      rfl) (fun a => by simp)]
    rfl) (fun a => by simp)]
  simp only [obind_some]
  rw [show foldI (fun _ x a => partD x a) 0 p [] = pathD p from rfl]
  simp only [id, s_digest (l := pathD p) (by omega), obind_some]

def leastS (a : Int × Bool) (h : den tHop) : Int × Bool := cond (!a.2 || decide (h.2.2.2.1 < a.1)) (h.2.2.2.1, true) a

def least (l : List (den tHop)) : Int := (l.foldl leastS (0, false)).1

def hops (p : den tPath) : List (den tHop) := foldI (fun _ x a => a ++ x.2.2.2) 0 p []

theorem hops_app : ∀ (p : den tPath) (k : Nat) (a : List (den tHop)), foldI (fun _ (x : den tPathPart) a => a ++ x.2.2.2) k p a = a ++ p.flatMap (fun x : den tPathPart => x.2.2.2)
  | [], _, a => by simp [foldI]
  | x :: p, k, a => by
    simp only [foldI]
    rw [hops_app p (k + 1)]
    simp

theorem hops_len (p : den tPath) : (hops p).length ≤ tot tPath p := by
  have h := foldI_m (f := fun _ (x : den tPathPart) (a : List (den tHop)) => a ++ x.2.2.2) (m := List.length) (cost := fun x : den tPathPart => x.2.2.2.length) (fun k x a => by simp) p 0 []
  have h2 := hops_sum p
  unfold hops
  simp only [List.length_nil, Nat.zero_add] at h
  omega

def leastI (k : Nat) (h : den tHop) (a : Int) : Int := if k = 0 ∨ h.2.2.2.1 < a then h.2.2.2.1 else a

theorem least_go : ∀ (l : List (den tHop)) (k : Nat) (a : Int), 0 < k → foldI leastI k l a = (l.foldl leastS (a, true)).1
  | [], _, _, _ => rfl
  | h :: l, k, a, hk => by
    simp only [foldI, List.foldl_cons]
    by_cases c : h.2.2.2.1 < a
    · have e1 : leastI k h a = h.2.2.2.1 := by unfold leastI; rw [if_pos (.inr c)]
      have e2 : leastS (a, true) h = (h.2.2.2.1, true) := by unfold leastS; simp [c]
      rw [e1, e2]; exact least_go l (k + 1) _ (by omega)
    · have e1 : leastI k h a = a := by unfold leastI; rw [if_neg (fun hc => hc.elim (fun e => by omega) c)]
      have e2 : leastS (a, true) h = (a, true) := by unfold leastS; simp [c]
      rw [e1, e2]; exact least_go l (k + 1) _ (by omega)

theorem least_eq (l : List (den tHop)) : foldI leastI 0 l 0 = least l := by
  cases l with
  | nil => rfl
  | cons h l =>
    unfold least
    simp only [foldI, List.foldl_cons]
    have e1 : leastI 0 h 0 = h.2.2.2.1 := by unfold leastI; rw [if_pos (.inl rfl)]
    have e2 : leastS (0, false) h = (h.2.2.2.1, true) := by unfold leastS; simp
    rw [e1, e2]; exact least_go l 1 _ (by omega)

theorem i_expiry {p : den tPath} (h : tot tPath p ≤ 1048576) : i_PathExpiry p = some (least (hops p)) := by
  have hl : p.length ≤ 1048576 := Nat.le_trans (tot_len (t := tPathPart) p) h
  have hs := hops_sum p
  have hh := hops_len p
  unfold i_PathExpiry i_allHops i_leastExpiry
  rw [loopG (fun k (a : List (den tHop)) => ((k : Int), a)) ((0 : Int), []) [] p (fun _ x a => a ++ x.2.2.2) List.length (fun x : den tPathPart => x.2.2.2.length) 68719476736 id rfl (by omega) (by simp only [List.length_nil]; omega) (fun k x a => by simp) (fun k x a hi hx hd hw hk hb => by
    simp only [hd, hi, hw, cond_true, obind_some, apOk_le (b := 40) (n := a.length) (m := x.2.2.2.length) (by decide) (by omega)]) (fun a => by simp)]
  simp only [obind_some]
  rw [show foldI (fun _ (x : den tPathPart) a => a ++ x.2.2.2) 0 p [] = hops p from rfl]
  simp only [id]
  rw [loopG (fun k (a : Int) => (a, (k : Int))) ((0 : Int), (0 : Int)) 0 (hops p) leastI (fun _ => 0) (fun _ => 0) 1 id rfl (by omega) (by rw [sum_nil]; omega) (fun k x a => by omega) (fun k x a hi hx hd hw hk hb => by
    simp only [hd, hi, hw, cond_true, obind_some]
    unfold leastI
    have e1 : ((k : Int) == 0) = decide (k = 0) := by rw [Bool.eq_iff_iff]; simp
    rw [e1]
    by_cases c : k = 0
    · simp [c]
    · by_cases c2 : x.2.2.2.1 < a
      · simp [c, c2]
      · simp [c, c2]) (fun a => by simp)]
  rw [least_eq]
  rfl

theorem fold_parts : ∀ (p : den tPath) (k : Nat) (a : Int × Bool), foldI (fun _ (x : den tPathPart) a => foldI (fun _ h a => leastS a h) 0 x.2.2.2 a) k p a = (p.flatMap fun x : den tPathPart => x.2.2.2).foldl leastS a
  | [], _, _ => rfl
  | x :: p, k, a => by
    simp only [foldI, List.flatMap_cons, List.foldl_append]
    rw [fold_parts p (k + 1), foldI_foldl]

theorem s_expiry {p : den tPath} (h : tot tPath p ≤ 1048576) : s_PathExpiry p = some (least (hops p)) := by
  have hl : p.length ≤ 1048576 := Nat.le_trans (tot_len (t := tPathPart) p) h
  have hs := hops_sum p
  unfold s_PathExpiry
  rw [loopG (fun k (a : Int × Bool) => (a.1, a.2, (k : Int))) ((0 : Int), false, (0 : Int)) ((0 : Int), false) p (fun _ (x : den tPathPart) a => foldI (fun _ h a => leastS a h) 0 x.2.2.2 a) (fun _ => 0) (fun _ => 0) 1 (fun a => a.1) rfl (by omega) (by rw [sum_nil]; omega) (fun k x a => by omega) (fun k x a hi hx hd hw hk hb => by
    have hxl : x.2.2.2.length ≤ 1048576 := by
      have h1 := tot_get (t := tPathPart) hx
      have h2 : x.2.2.2.length ≤ tot tPathPart x := Nat.le_trans (tot_len (t := tHop) x.2.2.2) (by simp only [tot_pair, tot_int]; omega)
      have h3 : tot (.sl tPathPart) p ≤ 1048576 := h
      omega
    simp only [hd, hi, hw, cond_true, obind_some]
    rw [loopG (fun k (a : Int × Bool) => (a.1, a.2, (k : Int))) (a.1, a.2, (0 : Int)) a x.2.2.2 (fun _ h a => leastS a h) (fun _ => 0) (fun _ => 0) 1 id rfl (by omega) (by rw [sum_nil]; omega) (fun k x a => by omega) (fun k h a hi hx hd hw hk hb => by
      simp only [hd, hi, hw, cond_true, obind_some]
      unfold leastS
      cases ca : a.2
      · rfl
      · cases c : decide (h.2.2.2.1 < a.1) <;> simp [c, ca]) (fun a => by simp)]
    rfl) (fun a => by simp)]
  rw [fold_parts]
  unfold least hops
  rw [hops_app]
  rfl

def better (a b : den tPath) : Bool :=
  cond (((steps a).length : Int) != ((steps b).length : Int)) (decide (((steps a).length : Int) < ((steps b).length : Int)))
    (cond (least (hops a) != least (hops b)) (decide (least (hops a) > least (hops b))) (decide (digest (pathD a) < digest (pathD b))))

theorem i_better {a b : den tPath} (ha : tot tPath a ≤ 1048576) (hb : tot tPath b ≤ 1048576) : i_BetterPath a b = some (better a b) := by
  unfold i_BetterPath i_PathLength better
  simp only [i_steps (p := a) (Nat.le_trans ha (by decide)), i_steps (p := b) (Nat.le_trans hb (by decide)), i_expiry ha, i_expiry hb, i_pathDig ha, i_pathDig hb, obind_some]
  cases ((steps a).length : Int) != ((steps b).length : Int)
  · cases least (hops a) != least (hops b) <;> rfl
  · rfl

theorem s_better {a b : den tPath} (ha : tot tPath a ≤ 1048576) (hb : tot tPath b ≤ 1048576) : s_BetterPath a b = some (better a b) := by
  unfold s_BetterPath s_PathLength better
  simp only [s_steps (p := a) (Nat.le_trans ha (by decide)), s_steps (p := b) (Nat.le_trans hb (by decide)), s_expiry ha, s_expiry hb, s_pathDig ha, s_pathDig hb, obind_some]
  cases ((steps a).length : Int) != ((steps b).length : Int)
  · cases least (hops a) != least (hops b) <;> rfl
  · rfl

def posn (x : den tPath) (out : List (den tPath)) : Nat → Nat
  | 0 => 0
  | k + 1 => cond (better x ((out[k]?).getD [])) (posn x out k) (k + 1)

theorem posn_le (x : den tPath) (out : List (den tPath)) : ∀ k, posn x out k ≤ k
  | 0 => Nat.le_refl _
  | k + 1 => by
    unfold posn
    cases better x ((out[k]?).getD [])
    · exact Nat.le_refl _
    · exact Nat.le_succ_of_le (posn_le x out k)

theorem posn_loop {x : den tPath} {out : List (den tPath)} {step : Int → Option (Int ⊕ Int)} (hl : out.length ≤ 68719476736)
    (h0 : step 0 = some (.inr 0)) (h1 : ∀ k (y : den tPath), out[k]? = some y → step ((k + 1 : Nat) : Int) = some (cond (better x y) (.inl (k : Int)) (.inr ((k + 1 : Nat) : Int)))) :
    ∀ k, k ≤ out.length → loopM step (k : Int) = some ((posn x out k : Nat) : Int)
  | 0, _ => loopM_done h0
  | k + 1, hk => by
    have hy : out[k]? = some out[k] := List.getElem?_eq_getElem (by omega)
    have hs := h1 k _ hy
    unfold posn
    rw [hy, Option.getD_some]
    cases hb : better x out[k] with
    | true => rw [hb] at hs; rw [loopM_next hs]; exact posn_loop hl h0 h1 k (by omega)
    | false => rw [hb] at hs; exact loopM_done hs

def putP (x : den tPath) (out : List (den tPath)) : List (den tPath) := out.take (posn x out out.length) ++ [x] ++ out.drop (posn x out out.length)

theorem putP_tot (x : den tPath) (out : List (den tPath)) : tot (.sl tPath) (putP x out) = tot (.sl tPath) out + (1 + tot tPath x) := by
  have h := tot_app (t := tPath) (out.take (posn x out out.length)) (out.drop (posn x out out.length))
  rw [List.take_append_drop] at h
  unfold putP
  rw [tot_app, tot_app, tot_one]
  omega

def sortP (l : List (den tPath)) : List (den tPath) := foldI (fun _ x a => putP x a) 0 l []

theorem sortP_tot (l : List (den tPath)) : tot (.sl tPath) (sortP l) ≤ tot (.sl tPath) l := by
  have h := foldI_m (f := fun _ x (a : List (den tPath)) => putP x a) (m := tot (.sl tPath)) (cost := fun x => 1 + tot tPath x) (fun k x a => Nat.le_of_eq (putP_tot x a)) l 0 []
  rw [tot_sum, tot_nil] at h
  unfold sortP
  omega

theorem i_sortP {l : List (den tPath)} (h : tot (.sl tPath) l ≤ 1048576) : i_SortPaths l = some (sortP l) := by
  have hl := tot_len (t := tPath) l
  unfold i_SortPaths sortP
  rw [loopG (fun k (a : List (den tPath)) => ((k : Int), a)) ((0 : Int), []) [] l (fun _ x a => putP x a) (tot (.sl tPath)) (fun x => 1 + tot tPath x) 1048576 id rfl (by omega) (by rw [tot_sum, tot_nil]; omega) (fun k x a => Nat.le_of_eq (putP_tot x a)) (fun k x a hi hx hd hw hk hb => by
    have ha := tot_len (t := tPath) a
    have hsm : SmB 68719476736 tPath x := (sm_of_tot (B := 1048576) (t := tPath) (by omega)).mono (by decide)
    simp only [hd, hi, hw, cond_true, obind_some]
    rw [posn_loop (x := x) (out := a) (by omega) (by rfl) (fun j y hy => by
      have hlt := (List.getElem?_eq_some_iff.1 hy).1
      have hty := tot_get (t := tPath) hy
      have e1 : decide (((j + 1 : Nat) : Int) > 0) = true := by simp <;> omega
      have e2 : wr (((j + 1 : Nat) : Int) - 1) = (j : Int) := by
        have : wr (((j + 1 : Nat) : Int) - 1) = ((j + 1 : Nat) : Int) - 1 := wrap_in (by omega) (by omega)
        rw [this]; omega
      have e3 : decide ((j : Int) < (a.length : Int)) = true := by simp; omega
      simp only [e1, e2, e3, pos_nat, cond_true, Int.toNat_natCast, hy, obind_some, i_better (a := x) (b := y) (by omega) (by omega)]
      cases better x y <;> rfl) a.length (Nat.le_refl _)]
    have hp := posn_le x a a.length
    have s1 : slOk (0 : Int) ((posn x a a.length : Nat) : Int) (a.length : Int) = true := by
      have := slOk_nat (a := 0) (b := posn x a a.length) (n := a.length)
      rw [show ((0 : Nat) : Int) = 0 from rfl] at this
      rw [this]; simp; omega
    have s2 : slOk ((posn x a a.length : Nat) : Int) (a.length : Int) (a.length : Int) = true := by rw [slOk_nat]; simp; omega
    simp only [obind_some, s1, s2, cond_true, cut_take, cut_drop hp, i_copyP hsm]
    rw [apOk_le (b := 24) (by decide) (by simp <;> omega), apOk_le (b := 24) (by decide) (by simp <;> omega), apOk_le (b := 24) (by decide) (by simp <;> omega)]
    simp only [cond_true, List.nil_append]
    rfl) (fun a => by simp)]
  rfl

theorem s_sortP {l : List (den tPath)} (h : tot (.sl tPath) l ≤ 1048576) : s_SortPaths l = some (sortP l) := by
  have hl := tot_len (t := tPath) l
  unfold s_SortPaths sortP
  rw [loopG (fun k (a : List (den tPath)) => ((k : Int), a)) ((0 : Int), []) [] l (fun _ x a => putP x a) (tot (.sl tPath)) (fun x => 1 + tot tPath x) 1048576 id rfl (by omega) (by rw [tot_sum, tot_nil]; omega) (fun k x a => Nat.le_of_eq (putP_tot x a)) (fun k x a hi hx hd hw hk hb => by
    have ha := tot_len (t := tPath) a
    have hsm : SmB 68719476736 tPath x := (sm_of_tot (B := 1048576) (t := tPath) (by omega)).mono (by decide)
    simp only [hd, hi, hw, cond_true, obind_some, both_self]
    rw [posn_loop (x := x) (out := a) (by omega) (by rfl) (fun j y hy => by
      have hlt := (List.getElem?_eq_some_iff.1 hy).1
      have hty := tot_get (t := tPath) hy
      have e1 : decide (((j + 1 : Nat) : Int) > 0) = true := by simp <;> omega
      have e2 : wr (((j + 1 : Nat) : Int) - 1) = (j : Int) := by
        have : wr (((j + 1 : Nat) : Int) - 1) = ((j + 1 : Nat) : Int) - 1 := wrap_in (by omega) (by omega)
        rw [this]; omega
      have e3 : decide ((j : Int) < (a.length : Int)) = true := by simp; omega
      simp only [e1, e2, e3, pos_nat, cond_true, Int.toNat_natCast, hy, obind_some, s_better (a := x) (b := y) (by omega) (by omega)]
      cases better x y <;> rfl) a.length (Nat.le_refl _)]
    have hp := posn_le x a a.length
    have s1 : slOk (0 : Int) ((posn x a a.length : Nat) : Int) (a.length : Int) = true := by
      have := slOk_nat (a := 0) (b := posn x a a.length) (n := a.length)
      rw [show ((0 : Nat) : Int) = 0 from rfl] at this
      rw [this]; simp; omega
    have s2 : slOk ((posn x a a.length : Nat) : Int) (a.length : Int) (a.length : Int) = true := by rw [slOk_nat]; simp; omega
    simp only [obind_some, s1, s2, cond_true, cut_take, cut_drop hp, s_copyP hsm]
    rw [apOk_le (b := 24) (by decide) (by simp <;> omega), apOk_le (b := 24) (by decide) (by simp <;> omega), apOk_le (b := 24) (by decide) (by simp <;> omega)]
    simp only [cond_true, List.nil_append, obind_some]
    rfl) (fun a => by simp)]
  rfl

def activeV (l : List (den tRevocation)) (now : Int) : List (den tRevocation) := l.filter fun x => decide (now ≤ x.2.2)

theorem i_activeV {l : List (den tRevocation)} {now : Int} (h : l.length ≤ 1048576) : i_ActiveRevocations l now = some (activeV l now) := by
  unfold i_ActiveRevocations activeV
  rw [loopG (fun k (a : List (den tRevocation)) => ((k : Int), a)) ((0 : Int), []) [] l (fun _ x a => if decide (now ≤ x.2.2) = true then a ++ [x] else a) List.length (fun _ => 1) 68719476736 id rfl (by omega) (by rw [sum_one]; simp; omega) (fun k x a => by split <;> simp) (fun k x a hi hx hd hw hk hb => by
    simp only [hd, hi, hw, cond_true, obind_some, peta, apOk_le (b := 24) (n := a.length) (m := 1) (by decide) (by omega)]
    cases decide (now ≤ x.2.2) <;> simp) (fun a => by simp), foldI_filter (fun x : den tRevocation => decide (now ≤ x.2.2))]
  simp

theorem s_activeV {l : List (den tRevocation)} {now : Int} (h : l.length ≤ 1048576) : s_ActiveRevocations l now = some (activeV l now) := by
  unfold s_ActiveRevocations activeV
  rw [loopG (fun k (a : List (den tRevocation)) => ((k : Int), a)) ((0 : Int), []) [] l (fun _ x a => if decide (now ≤ x.2.2) = true then a ++ [x] else a) List.length (fun _ => 1) 68719476736 id rfl (by omega) (by rw [sum_one]; simp; omega) (fun k x a => by split <;> simp) (fun k x a hi hx hd hw hk hb => by
    simp only [hd, hi, hw, cond_true, obind_some, peta, apOk_le (b := 24) (n := a.length) (m := 1) (by decide) (by omega)]
    cases decide (now ≤ x.2.2) <;> simp) (fun a => by simp), foldI_filter (fun x : den tRevocation => decide (now ≤ x.2.2))]
  simp

def revd (l : List (den tRevocation)) (p : den tPath) (now : Int) : Bool := !((activeV l now).all fun x => !affects p x)

theorem active_len (l : List (den tRevocation)) (now : Int) : (activeV l now).length ≤ l.length := List.length_filter_le _ _

theorem i_revd {l : List (den tRevocation)} {p : den tPath} {now : Int} (h : l.length ≤ 1048576) (hp : tot tPath p ≤ 1048576) : i_Revoked l p now = some (revd l p now) := by
  have ha := active_len l now
  unfold i_Revoked revd
  rw [i_activeV h, obind_some]
  rw [loop_scan (l := activeV l now) (fun _ x => if !affects p x then none else some true) (by omega) (fun k x hi hd hw hm hk => by
    have hy : (activeV l now)[k]? = some x := by rw [← idx_nat]; exact hi
    simp only [hd, hy, hw, cond_true, obind_some, pos_nat, Int.toNat_natCast, peta, i_affects hp]
    cases affects p x <;> rfl) (by simp), scanA (fun x : den tRevocation => !affects p x)]
  cases (activeV l now).all (fun x => !affects p x) <;> rfl

theorem s_revd {l : List (den tRevocation)} {p : den tPath} {now : Int} (h : l.length ≤ 1048576) (hp : tot tPath p ≤ 1048576) : s_Revoked l p now = some (revd l p now) := by
  have ha := active_len l now
  unfold s_Revoked revd
  rw [s_activeV h, obind_some]
  rw [loop_scan (l := activeV l now) (fun _ x => if !affects p x then none else some true) (by omega) (fun k x hi hd hw hm hk => by
    have hy : (activeV l now)[k]? = some x := by rw [← idx_nat]; exact hi
    simp only [hd, hy, hw, cond_true, obind_some, pos_nat, Int.toNat_natCast, peta, s_affects hp]
    cases affects p x <;> rfl) (by simp), scanA (fun x : den tRevocation => !affects p x)]
  cases (activeV l now).all (fun x => !affects p x) <;> rfl

def preferP (l : List (den tRevocation)) (p : List (den tPath)) (now : Int) : List (den tPath) := (p.filter fun x => !revd l x now) ++ p.filter fun x => revd l x now

def two (r : den tPath → Bool) (x : den tPath) (a : List (den tPath) × List (den tPath)) : List (den tPath) × List (den tPath) := cond (r x) (a.1, a.2 ++ [x]) (a.1 ++ [x], a.2)

theorem two_len (r : den tPath → Bool) (x : den tPath) (a : List (den tPath) × List (den tPath)) : (two r x a).1.length + (two r x a).2.length ≤ a.1.length + a.2.length + 1 := by
  unfold two
  cases r x <;> simp <;> omega

theorem two_filter (r : den tPath → Bool) : ∀ (l : List (den tPath)) (k : Nat) (a : List (den tPath) × List (den tPath)), foldI (fun _ x a => two r x a) k l a = (a.1 ++ l.filter (fun x => !r x), a.2 ++ l.filter r)
  | [], _, a => by simp [foldI]
  | x :: l, k, a => by
    simp only [foldI]
    rw [two_filter r l (k + 1)]
    unfold two
    cases h : r x <;> simp [h]

theorem i_preferP {l : List (den tRevocation)} {p : List (den tPath)} {now : Int} (h : l.length ≤ 1048576) (hp : tot (.sl tPath) p ≤ 1048576) : i_PreferUnrevoked l p now = some (preferP l p now) := by
  have hl := tot_len (t := tPath) p
  unfold i_PreferUnrevoked preferP
  rw [loopG (fun k (a : List (den tPath) × List (den tPath)) => ((k : Int), a.1, a.2)) ((0 : Int), [], []) ([], []) p (fun _ x a => two (fun x => revd l x now) x a) (fun a => a.1.length + a.2.length) (fun _ => 1) 68719476736 (fun a => (a.1, a.2)) rfl (by omega) (by rw [sum_one]; simp; omega) (fun k x a => two_len _ x a) (fun k x a hi hx hd hw hk hb => by
    have ht := tot_get (t := tPath) hx
    have hsm : SmB 68719476736 tPath x := (sm_of_tot (B := 1048576) (t := tPath) (by omega)).mono (by decide)
    simp only [hd, hi, hw, cond_true, obind_some, i_revd (l := l) (p := x) (now := now) h (by omega), i_copyP hsm, apOk_le (b := 24) (n := a.1.length) (m := 1) (by decide) (by omega), apOk_le (b := 24) (n := a.2.length) (m := 1) (by decide) (by omega)]
    have e : two (fun x => revd l x now) x a = cond (revd l x now) (a.1, a.2 ++ [x]) (a.1 ++ [x], a.2) := rfl
    rw [e]
    cases revd l x now <;> rfl) (fun a => by simp), two_filter]
  have e : (p.filter fun x => !revd l x now).length ≤ p.length := List.length_filter_le _ _
  have e2 : (p.filter fun x => revd l x now).length ≤ p.length := List.length_filter_le _ _
  simp only [obind_some, List.nil_append]
  rw [apOk_le (b := 24) (by decide) (by omega), cond_true]

theorem s_preferP {l : List (den tRevocation)} {p : List (den tPath)} {now : Int} (h : l.length ≤ 1048576) (hp : tot (.sl tPath) p ≤ 1048576) : s_PreferUnrevoked l p now = some (preferP l p now) := by
  have hl := tot_len (t := tPath) p
  unfold s_PreferUnrevoked preferP
  rw [loopG (fun k (a : List (den tPath)) => ((k : Int), a)) ((0 : Int), []) [] p (fun _ x a => if (!revd l x now) = true then a ++ [x] else a) List.length (fun _ => 1) 68719476736 id rfl (by omega) (by rw [sum_one]; simp; omega) (fun k x a => by split <;> simp) (fun k x a hi hx hd hw hk hb => by
    have ht := tot_get (t := tPath) hx
    have hsm : SmB 68719476736 tPath x := (sm_of_tot (B := 1048576) (t := tPath) (by omega)).mono (by decide)
    simp only [hd, hi, hw, cond_true, obind_some, s_revd (l := l) (p := x) (now := now) h (by omega), s_copyP hsm, apOk_le (b := 24) (n := a.length) (m := 1) (by decide) (by omega)]
    cases revd l x now <;> simp) (fun a => by simp), foldI_filter (fun x : den tPath => !revd l x now)]
  have e : (p.filter fun x => !revd l x now).length ≤ p.length := List.length_filter_le _ _
  simp only [id, obind_some, List.nil_append]
  rw [loopG (fun k (a : List (den tPath)) => ((k : Int), a)) ((0 : Int), p.filter fun x => !revd l x now) (p.filter fun x => !revd l x now) p (fun _ x a => if revd l x now = true then a ++ [x] else a) List.length (fun _ => 1) 68719476736 id rfl (by omega) (by rw [sum_one]; omega) (fun k x a => by split <;> simp) (fun k x a hi hx hd hw hk hb => by
    have ht := tot_get (t := tPath) hx
    have hsm : SmB 68719476736 tPath x := (sm_of_tot (B := 1048576) (t := tPath) (by omega)).mono (by decide)
    simp only [hd, hi, hw, cond_true, obind_some, s_revd (l := l) (p := x) (now := now) h (by omega), s_copyP hsm, apOk_le (b := 24) (n := a.length) (m := 1) (by decide) (by omega)]
    cases revd l x now <;> simp) (fun a => by simp), foldI_filter (fun x : den tPath => revd l x now)]
  rfl

theorem filter_tot (r : den tPath → Bool) : ∀ p : List (den tPath), tot (.sl tPath) (p.filter (fun x => !r x)) + tot (.sl tPath) (p.filter r) = tot (.sl tPath) p
  | [] => rfl
  | x :: p => by
    have ih := filter_tot r p
    rw [tot_cons]
    cases h : r x
    · have e := tot_cons (t := tPath) x (p.filter fun x => !r x)
      simp only [List.filter_cons, h, Bool.not_false, if_true, Bool.false_eq_true, if_false]; omega
    · have e := tot_cons (t := tPath) x (p.filter r)
      simp only [List.filter_cons, h, Bool.not_true, if_true, Bool.false_eq_true, if_false]; omega

theorem preferP_tot (l : List (den tRevocation)) (p : List (den tPath)) (now : Int) : tot (.sl tPath) (preferP l p now) = tot (.sl tPath) p := by
  unfold preferP
  rw [tot_app]
  exact filter_tot (fun x => revd l x now) p

def newPs (f : den tFlow) (p : List (den tPath)) (now : Int) : List (den tPath) := (preferP f.2.2.2.2.2.2.2.2 (sortP p) now).take (min (preferP f.2.2.2.2.2.2.2.2 (sortP p) now).length 24)

theorem min_int (n : Nat) : (if (24 : Int) < (n : Int) then (24 : Int) else (n : Int)) = ((min n 24 : Nat) : Int) := by
  by_cases c : 24 < n
  · rw [if_pos (by omega), Nat.min_eq_right (by omega)]; rfl
  · rw [if_neg (by omega), Nat.min_eq_left (by omega)]

theorem slOk_min (n : Nat) : slOk (0 : Int) ((min n 24 : Nat) : Int) (n : Int) = true := by
  have := slOk_nat (a := 0) (b := min n 24) (n := n)
  rw [show ((0 : Nat) : Int) = 0 from rfl] at this
  rw [this]; simp; omega

theorem i_setP {f : den tFlow} {p : List (den tPath)} {now : Int} (h : tot tFlow f ≤ 1048576) (hp : tot (.sl tPath) p ≤ 1048576) : i_SetPaths f p now = some (f.1, f.2.1, f.2.2.1, f.2.2.2.1, 0, 0, f.2.2.2.2.1, newPs f p now, f.2.2.2.2.2.2.2.2) := by
  have hf : SmB 68719476736 tFlow f := (sm_of_tot h).mono (by decide)
  have hv : f.2.2.2.2.2.2.2.2.length ≤ 1048576 := Nat.le_trans (tot_len (t := tRevocation) _) (tot_r (tot_r (tot_r (tot_r (tot_r (tot_r (tot_r (tot_r h))))))))
  have hs := sortP_tot p
  unfold i_SetPaths newPs
  simp only [peta, i_copyF hf, i_sortP hp, i_preferP (l := f.2.2.2.2.2.2.2.2) (p := sortP p) (now := now) hv (by omega), i_min, obind_some, min_int, slOk_min, cond_true, Int.toNat_natCast]
  rfl

theorem s_setP {f : den tFlow} {p : List (den tPath)} {now : Int} (h : tot tFlow f ≤ 1048576) (hp : tot (.sl tPath) p ≤ 1048576) : s_SetPaths f p now = some (f.1, f.2.1, f.2.2.1, f.2.2.2.1, newPs f p now, 0, 0, f.2.2.2.2.1, f.2.2.2.2.2.2.2.2) := by
  have hf : SmB 68719476736 tFlow f := (sm_of_tot h).mono (by decide)
  have hv : f.2.2.2.2.2.2.2.2.length ≤ 1048576 := Nat.le_trans (tot_len (t := tRevocation) _) (tot_r (tot_r (tot_r (tot_r (tot_r (tot_r (tot_r (tot_r h))))))))
  have hs := sortP_tot p
  unfold s_SetPaths newPs
  simp only [peta, s_copyF hf, s_sortP hp, s_preferP (l := f.2.2.2.2.2.2.2.2) (p := sortP p) (now := now) hv (by omega), s_min, obind_some, min_int, slOk_min, cond_true, cut_take]
  rfl

theorem newPs_tot (f : den tFlow) (p : List (den tPath)) (now : Int) : tot (.sl tPath) (newPs f p now) ≤ tot (.sl tPath) p := by
  have h1 := sortP_tot p
  have h2 := preferP_tot f.2.2.2.2.2.2.2.2 (sortP p) now
  have h3 := tot_take (t := tPath) (preferP f.2.2.2.2.2.2.2.2 (sortP p) now) (min (preferP f.2.2.2.2.2.2.2.2 (sortP p) now).length 24)
  unfold newPs
  omega

end Go.Proofs.YtmodgmbmbainmaaGreat
