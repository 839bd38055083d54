/-
  Facts and plain laws: what the functions compute, in plain words. Conditions: as each says.
-/
import Derived.Test.YtmodgmbmbainmaaT0XTickFlow
set_option linter.unusedVariables false
set_option linter.unusedSimpArgs false
set_option maxRecDepth 100000
namespace Go.Proofs.Ytmodgmbmbainmaa
open Go.Ab Go.V
theorem sz_ByteS {l : den (.sl tb)} {left : Int} (w : Wf (.sl tb) l) (h0 : 0 ≤ left) (h1 : left ≤ 1048576) : SzT (l_szByteS l left) left (tot (.sl tb) l) := szF_ok (t := tb) rfl w.1 h0 h1

theorem sz_Message {x : den tMessage} {left : Int} (w : Wf tMessage x) (h0 : 0 ≤ left) (h1 : left ≤ 1048576) : SzT (l_szMessage x left) left (tot tMessage x) := SzT.eq (sz_field (sz_ByteS w h0 h1) h1 fun r0 a0 b0 => sz_done a0) (by simp [tot, tot_flat])

theorem sz_MessageS {l : den (.sl tMessage)} {left : Int} (w : Wf (.sl tMessage) l) (h0 : 0 ≤ left) (h1 : left ≤ 1048576) : SzT (l_szMessageS l left) left (tot (.sl tMessage) l) := szL_ok (t := tMessage) (szE := l_szMessage) w.1 h0 h1 fun x hx k k0 k1 => sz_Message (w.2 x hx) k0 k1

theorem sz_HopS {l : den (.sl tHop)} {left : Int} (w : Wf (.sl tHop) l) (h0 : 0 ≤ left) (h1 : left ≤ 1048576) : SzT (l_szHopS l left) left (tot (.sl tHop) l) := szF_ok (t := tHop) rfl w.1 h0 h1

theorem sz_PathPart {x : den tPathPart} {left : Int} (w : Wf tPathPart x) (h0 : 0 ≤ left) (h1 : left ≤ 1048576) : SzT (l_szPathPart x left) left (tot tPathPart x) := SzT.eq (sz_field (sz_HopS w.2.2.2 h0 h1) h1 fun r0 a0 b0 => sz_done a0) (by simp [tot, tot_flat])

theorem sz_PathPartS {l : den (.sl tPathPart)} {left : Int} (w : Wf (.sl tPathPart) l) (h0 : 0 ≤ left) (h1 : left ≤ 1048576) : SzT (l_szPathPartS l left) left (tot (.sl tPathPart) l) := szL_ok (t := tPathPart) (szE := l_szPathPart) w.1 h0 h1 fun x hx k k0 k1 => sz_PathPart (w.2 x hx) k0 k1

theorem sz_Path {x : den tPath} {left : Int} (w : Wf tPath x) (h0 : 0 ≤ left) (h1 : left ≤ 1048576) : SzT (l_szPath x left) left (tot tPath x) := SzT.eq (sz_field (sz_PathPartS w h0 h1) h1 fun r0 a0 b0 => sz_done a0) (by simp [tot, tot_flat])

theorem sz_PathS {l : den (.sl tPath)} {left : Int} (w : Wf (.sl tPath) l) (h0 : 0 ≤ left) (h1 : left ≤ 1048576) : SzT (l_szPathS l left) left (tot (.sl tPath) l) := szL_ok (t := tPath) (szE := l_szPath) w.1 h0 h1 fun x hx k k0 k1 => sz_Path (w.2 x hx) k0 k1

theorem sz_RevocationS {l : den (.sl tRevocation)} {left : Int} (w : Wf (.sl tRevocation) l) (h0 : 0 ≤ left) (h1 : left ≤ 1048576) : SzT (l_szRevocationS l left) left (tot (.sl tRevocation) l) := szF_ok (t := tRevocation) rfl w.1 h0 h1

theorem sz_Flow {x : den tFlow} {left : Int} (w : Wf tFlow x) (h0 : 0 ≤ left) (h1 : left ≤ 1048576) : SzT (l_szFlow x left) left (tot tFlow x) := SzT.eq (sz_field (sz_MessageS w.2.2.2.2.1 h0 h1) h1 fun r0 a0 b0 => sz_field (sz_PathS w.2.2.2.2.2.1 a0 b0) b0 fun r1 a1 b1 => sz_field (sz_RevocationS w.2.2.2.2.2.2.2.2 a1 b1) b1 fun r2 a2 b2 => sz_done a2) (by simp [tot, tot_flat] <;> omega)

theorem to_ByteS {l : den (.sl tb)} (h : Sm (.sl tb) l) : l_toByteS l = some l := by
  have : l_toByteS l = some (l.map id) := toL_eq (toE := some) (g := id) h.1 (by decide) fun x hx => rfl
  simpa using this

theorem to_Message {x : den tMessage} (h : Sm tMessage x) : l_toMessage x = some x := by
  unfold l_toMessage
  simp [to_ByteS h]

theorem to_MessageS {l : den (.sl tMessage)} (h : Sm (.sl tMessage) l) : l_toMessageS l = some l := by
  have : l_toMessageS l = some (l.map id) := toL_eq (toE := l_toMessage) (g := id) h.1 (by decide) fun x hx => to_Message (h.2 x hx)
  simpa using this

theorem to_Hop {x : den tHop} (h : Sm tHop x) : l_toHop x = some x := by
  unfold l_toHop
  rfl

theorem to_HopS {l : den (.sl tHop)} (h : Sm (.sl tHop) l) : l_toHopS l = some l := by
  have : l_toHopS l = some (l.map id) := toL_eq (toE := l_toHop) (g := id) h.1 (by decide) fun x hx => to_Hop (h.2 x hx)
  simpa using this

theorem to_PathPart {x : den tPathPart} (h : Sm tPathPart x) : l_toPathPart x = some x := by
  unfold l_toPathPart
  simp [to_HopS h.2.2.2]

theorem to_PathPartS {l : den (.sl tPathPart)} (h : Sm (.sl tPathPart) l) : l_toPathPartS l = some l := by
  have : l_toPathPartS l = some (l.map id) := toL_eq (toE := l_toPathPart) (g := id) h.1 (by decide) fun x hx => to_PathPart (h.2 x hx)
  simpa using this

theorem to_Path {x : den tPath} (h : Sm tPath x) : l_toPath x = some x := by
  unfold l_toPath
  simp [to_PathPartS h]

theorem to_PathS {l : den (.sl tPath)} (h : Sm (.sl tPath) l) : l_toPathS l = some l := by
  have : l_toPathS l = some (l.map id) := toL_eq (toE := l_toPath) (g := id) h.1 (by decide) fun x hx => to_Path (h.2 x hx)
  simpa using this

theorem to_Revocation {x : den tRevocation} (h : Sm tRevocation x) : l_toRevocation x = some x := by
  unfold l_toRevocation
  rfl

theorem to_RevocationS {l : den (.sl tRevocation)} (h : Sm (.sl tRevocation) l) : l_toRevocationS l = some l := by
  have : l_toRevocationS l = some (l.map id) := toL_eq (toE := l_toRevocation) (g := id) h.1 (by decide) fun x hx => to_Revocation (h.2 x hx)
  simpa using this

theorem to_Flow {x : den tFlow} (h : Sm tFlow x) : l_toFlow x = some (x.1, x.2.1, x.2.2.1, x.2.2.2.1, x.2.2.2.2.2.2.1, x.2.2.2.2.2.2.2.1, x.2.2.2.2.1, x.2.2.2.2.2.1, x.2.2.2.2.2.2.2.2) := by
  unfold l_toFlow
  simp only [to_MessageS h.2.2.2.2.1, to_PathS h.2.2.2.2.2.1, to_RevocationS h.2.2.2.2.2.2.2.2, obind_some, peta]

theorem eq_ByteS {l : den (.sl tb)} (h : SmB 4611686018427387904 (.sl tb) l) : l_eqByteS l l = some true := eqL_refl (eqE := (fun x y => some (x == y))) h.1 fun x hx => by simp

theorem eq_Message {x : den tMessage} (h : SmB 4611686018427387904 tMessage x) : l_eqMessage x x = some true := by
  unfold l_eqMessage
  simp [eq_ByteS h]

theorem eq_MessageS {l : den (.sl tMessage)} (h : SmB 4611686018427387904 (.sl tMessage) l) : l_eqMessageS l l = some true := eqL_refl (eqE := l_eqMessage) h.1 fun x hx => eq_Message (h.2 x hx)

theorem eq_Hop {x : den tHop} (h : SmB 4611686018427387904 tHop x) : l_eqHop x x = some true := by
  unfold l_eqHop
  simp

theorem eq_HopS {l : den (.sl tHop)} (h : SmB 4611686018427387904 (.sl tHop) l) : l_eqHopS l l = some true := eqL_refl (eqE := l_eqHop) h.1 fun x hx => eq_Hop (h.2 x hx)

theorem eq_PathPart {x : den tPathPart} (h : SmB 4611686018427387904 tPathPart x) : l_eqPathPart x x = some true := by
  unfold l_eqPathPart
  simp [eq_HopS h.2.2.2]

theorem eq_PathPartS {l : den (.sl tPathPart)} (h : SmB 4611686018427387904 (.sl tPathPart) l) : l_eqPathPartS l l = some true := eqL_refl (eqE := l_eqPathPart) h.1 fun x hx => eq_PathPart (h.2 x hx)

theorem eq_Path {x : den tPath} (h : SmB 4611686018427387904 tPath x) : l_eqPath x x = some true := by
  unfold l_eqPath
  simp [eq_PathPartS h]

theorem eq_PathS {l : den (.sl tPath)} (h : SmB 4611686018427387904 (.sl tPath) l) : l_eqPathS l l = some true := eqL_refl (eqE := l_eqPath) h.1 fun x hx => eq_Path (h.2 x hx)

theorem eq_Revocation {x : den tRevocation} (h : SmB 4611686018427387904 tRevocation x) : l_eqRevocation x x = some true := by
  unfold l_eqRevocation
  simp

theorem eq_RevocationS {l : den (.sl tRevocation)} (h : SmB 4611686018427387904 (.sl tRevocation) l) : l_eqRevocationS l l = some true := eqL_refl (eqE := l_eqRevocation) h.1 fun x hx => eq_Revocation (h.2 x hx)

theorem eq_Flow {x : den tFlow} (h : SmB 4611686018427387904 tFlow x) : l_eqFlow x x = some true := by
  unfold l_eqFlow
  simp [eq_MessageS h.2.2.2.2.1, eq_PathS h.2.2.2.2.2.1, eq_RevocationS h.2.2.2.2.2.2.2.2]

theorem eq_Packet {x : den tPacket} (h : SmB 4611686018427387904 tPacket x) : l_eqPacket x x = some true := by
  unfold l_eqPacket
  simp [eq_Path h.2.2.2.1, eq_ByteS h.2.2.2.2.2.2.2.2.2]

theorem mark_ByteS {l : den (.sl tb)} {k : Int} (h : SmB 4611686018427387904 (.sl tb) l) (hk : 0 ≤ k) (hb : k + ((lv (.sl tb) l : Nat) : Int) ≤ 4611686018427387904) : l_markByteS l k = some (k + ((lv (.sl tb) l : Nat) : Int), mkT (.sl tb) l k) := by
  have hc := cntAll_sum (lv tb) l
  have hc : k + ((cntAll (lv tb) l : Nat) : Int) = k + ((lv (.sl tb) l : Nat) : Int) := by rw [hc]; rfl
  unfold l_markByteS
  rw [mark0 (cE := lv tb) (mE := mkT tb) (SmB 4611686018427387904 tb) (fun k i L x hx hi hN hk hb hp => by
      have hd : decide ((i : Int) < (L.length : Int)) = true := by simpa using hi
      have hd0 : decide ((0 : Int) ≤ (i : Int)) = true := by simp
      have hw : IntKind.i64.wrap ((i : Int) + 1) = ((i + 1 : Nat) : Int) := by rw [wrap_in (by omega) (by omega)]; omega
      have hl : k + ((lv tb x : Nat) : Int) = k + 1 := by simp only [lv] <;> omega
      rw [hl] at hb
      rw [hl]
      have hE : mkT tb x k = IntKind.u8.wrap (k) := by first | rfl | (simp [mkT, lv]; try omega)
      have f0 : IntKind.i64.wrap (k + 1) = k + 1 := wrap_in (by omega) (by omega)
      rw [hE]
      simp only [hd, hd0, hw, cond_true, Int.toNat_natCast, hx, obind_some, List.length_set, List.getElem?_set_self hi, List.set_set, f0]) (fun k L => by simp) h.1 h.2 hk (by rw [hc]; exact hb), hc]
  rfl

theorem mark_MessageS {l : den (.sl tMessage)} {k : Int} (h : SmB 4611686018427387904 (.sl tMessage) l) (hk : 0 ≤ k) (hb : k + ((lv (.sl tMessage) l : Nat) : Int) ≤ 4611686018427387904) : l_markMessageS l k = some (k + ((lv (.sl tMessage) l : Nat) : Int), mkT (.sl tMessage) l k) := by
  have hc := cntAll_sum (lv tMessage) l
  have hc : k + ((cntAll (lv tMessage) l : Nat) : Int) = k + ((lv (.sl tMessage) l : Nat) : Int) := by rw [hc]; rfl
  unfold l_markMessageS
  rw [mark0 (cE := lv tMessage) (mE := mkT tMessage) (SmB 4611686018427387904 tMessage) (fun k i L x hx hi hN hk hb hp => by
      have hd : decide ((i : Int) < (L.length : Int)) = true := by simpa using hi
      have hd0 : decide ((0 : Int) ≤ (i : Int)) = true := by simp
      have hw : IntKind.i64.wrap ((i : Int) + 1) = ((i + 1 : Nat) : Int) := by rw [wrap_in (by omega) (by omega)]; omega
      have hl : k + ((lv tMessage x : Nat) : Int) = k + ((lv (.sl tb) x : Nat) : Int) := by simp only [lv] <;> omega
      rw [hl] at hb
      rw [hl]
      have hE : mkT tMessage x k = mkT (.sl tb) x (k) := by first | rfl | (simp [mkT, lv]; try omega)
      have f0 := mark_ByteS (l := x) (k := k) hp (by omega) (by omega)
      rw [hE]
      simp only [hd, hd0, hw, cond_true, Int.toNat_natCast, hx, obind_some, List.length_set, List.getElem?_set_self hi, List.set_set, f0]) (fun k L => by simp) h.1 h.2 hk (by rw [hc]; exact hb), hc]
  rfl

theorem mark_HopS {l : den (.sl tHop)} {k : Int} (h : SmB 4611686018427387904 (.sl tHop) l) (hk : 0 ≤ k) (hb : k + ((lv (.sl tHop) l : Nat) : Int) ≤ 4611686018427387904) : l_markHopS l k = some (k + ((lv (.sl tHop) l : Nat) : Int), mkT (.sl tHop) l k) := by
  have hc := cntAll_sum (lv tHop) l
  have hc : k + ((cntAll (lv tHop) l : Nat) : Int) = k + ((lv (.sl tHop) l : Nat) : Int) := by rw [hc]; rfl
  unfold l_markHopS
  rw [mark0 (cE := lv tHop) (mE := mkT tHop) (SmB 4611686018427387904 tHop) (fun k i L x hx hi hN hk hb hp => by
      have hd : decide ((i : Int) < (L.length : Int)) = true := by simpa using hi
      have hd0 : decide ((0 : Int) ≤ (i : Int)) = true := by simp
      have hw : IntKind.i64.wrap ((i : Int) + 1) = ((i + 1 : Nat) : Int) := by rw [wrap_in (by omega) (by omega)]; omega
      have hl : k + ((lv tHop x : Nat) : Int) = k + 1 + 1 + 1 + 1 + 1 := by simp only [lv] <;> omega
      rw [hl] at hb
      rw [hl]
      have hE : mkT tHop x k = (k, k + 1, k + 1 + 1, k + 1 + 1 + 1, k + 1 + 1 + 1 + 1) := by first | rfl | (simp [mkT, lv]; try omega)
      have f0 : IntKind.i64.wrap (k + 1) = k + 1 := wrap_in (by omega) (by omega)
      have f1 : IntKind.i64.wrap (k + 1 + 1) = k + 1 + 1 := wrap_in (by omega) (by omega)
      have f2 : IntKind.i64.wrap (k + 1 + 1 + 1) = k + 1 + 1 + 1 := wrap_in (by omega) (by omega)
      have f3 : IntKind.i64.wrap (k + 1 + 1 + 1 + 1) = k + 1 + 1 + 1 + 1 := wrap_in (by omega) (by omega)
      have f4 : IntKind.i64.wrap (k + 1 + 1 + 1 + 1 + 1) = k + 1 + 1 + 1 + 1 + 1 := wrap_in (by omega) (by omega)
      rw [hE]
      simp only [hd, hd0, hw, cond_true, Int.toNat_natCast, hx, obind_some, List.length_set, List.getElem?_set_self hi, List.set_set, f0, f1, f2, f3, f4]) (fun k L => by simp) h.1 h.2 hk (by rw [hc]; exact hb), hc]
  rfl

theorem mark_PathPartS {l : den (.sl tPathPart)} {k : Int} (h : SmB 4611686018427387904 (.sl tPathPart) l) (hk : 0 ≤ k) (hb : k + ((lv (.sl tPathPart) l : Nat) : Int) ≤ 4611686018427387904) : l_markPathPartS l k = some (k + ((lv (.sl tPathPart) l : Nat) : Int), mkT (.sl tPathPart) l k) := by
  have hc := cntAll_sum (lv tPathPart) l
  have hc : k + ((cntAll (lv tPathPart) l : Nat) : Int) = k + ((lv (.sl tPathPart) l : Nat) : Int) := by rw [hc]; rfl
  unfold l_markPathPartS
  rw [mark0 (cE := lv tPathPart) (mE := mkT tPathPart) (SmB 4611686018427387904 tPathPart) (fun k i L x hx hi hN hk hb hp => by
      have hd : decide ((i : Int) < (L.length : Int)) = true := by simpa using hi
      have hd0 : decide ((0 : Int) ≤ (i : Int)) = true := by simp
      have hw : IntKind.i64.wrap ((i : Int) + 1) = ((i + 1 : Nat) : Int) := by rw [wrap_in (by omega) (by omega)]; omega
      have hl : k + ((lv tPathPart x : Nat) : Int) = k + 1 + 1 + 1 + ((lv (.sl tHop) x.2.2.2 : Nat) : Int) := by simp only [lv] <;> omega
      rw [hl] at hb
      rw [hl]
      have hE : mkT tPathPart x k = (k, k + 1, k + 1 + 1, mkT (.sl tHop) x.2.2.2 (k + 1 + 1 + 1)) := by first | rfl | (simp [mkT, lv]; try omega)
      have f0 : IntKind.i64.wrap (k + 1) = k + 1 := wrap_in (by omega) (by omega)
      have f1 : IntKind.i64.wrap (k + 1 + 1) = k + 1 + 1 := wrap_in (by omega) (by omega)
      have f2 : IntKind.i64.wrap (k + 1 + 1 + 1) = k + 1 + 1 + 1 := wrap_in (by omega) (by omega)
      have f3 := mark_HopS (l := x.2.2.2) (k := k + 1 + 1 + 1) hp.2.2.2 (by omega) (by omega)
      rw [hE]
      simp only [hd, hd0, hw, cond_true, Int.toNat_natCast, hx, obind_some, List.length_set, List.getElem?_set_self hi, List.set_set, f0, f1, f2, f3]) (fun k L => by simp) h.1 h.2 hk (by rw [hc]; exact hb), hc]
  rfl

theorem mark_PathS {l : den (.sl tPath)} {k : Int} (h : SmB 4611686018427387904 (.sl tPath) l) (hk : 0 ≤ k) (hb : k + ((lv (.sl tPath) l : Nat) : Int) ≤ 4611686018427387904) : l_markPathS l k = some (k + ((lv (.sl tPath) l : Nat) : Int), mkT (.sl tPath) l k) := by
  have hc := cntAll_sum (lv tPath) l
  have hc : k + ((cntAll (lv tPath) l : Nat) : Int) = k + ((lv (.sl tPath) l : Nat) : Int) := by rw [hc]; rfl
  unfold l_markPathS
  rw [mark0 (cE := lv tPath) (mE := mkT tPath) (SmB 4611686018427387904 tPath) (fun k i L x hx hi hN hk hb hp => by
      have hd : decide ((i : Int) < (L.length : Int)) = true := by simpa using hi
      have hd0 : decide ((0 : Int) ≤ (i : Int)) = true := by simp
      have hw : IntKind.i64.wrap ((i : Int) + 1) = ((i + 1 : Nat) : Int) := by rw [wrap_in (by omega) (by omega)]; omega
      have hl : k + ((lv tPath x : Nat) : Int) = k + ((lv (.sl tPathPart) x : Nat) : Int) := by simp only [lv] <;> omega
      rw [hl] at hb
      rw [hl]
      have hE : mkT tPath x k = mkT (.sl tPathPart) x (k) := by first | rfl | (simp [mkT, lv]; try omega)
      have f0 := mark_PathPartS (l := x) (k := k) hp (by omega) (by omega)
      rw [hE]
      simp only [hd, hd0, hw, cond_true, Int.toNat_natCast, hx, obind_some, List.length_set, List.getElem?_set_self hi, List.set_set, f0]) (fun k L => by simp) h.1 h.2 hk (by rw [hc]; exact hb), hc]
  rfl

theorem mark_RevocationS {l : den (.sl tRevocation)} {k : Int} (h : SmB 4611686018427387904 (.sl tRevocation) l) (hk : 0 ≤ k) (hb : k + ((lv (.sl tRevocation) l : Nat) : Int) ≤ 4611686018427387904) : l_markRevocationS l k = some (k + ((lv (.sl tRevocation) l : Nat) : Int), mkT (.sl tRevocation) l k) := by
  have hc := cntAll_sum (lv tRevocation) l
  have hc : k + ((cntAll (lv tRevocation) l : Nat) : Int) = k + ((lv (.sl tRevocation) l : Nat) : Int) := by rw [hc]; rfl
  unfold l_markRevocationS
  rw [mark0 (cE := lv tRevocation) (mE := mkT tRevocation) (SmB 4611686018427387904 tRevocation) (fun k i L x hx hi hN hk hb hp => by
      have hd : decide ((i : Int) < (L.length : Int)) = true := by simpa using hi
      have hd0 : decide ((0 : Int) ≤ (i : Int)) = true := by simp
      have hw : IntKind.i64.wrap ((i : Int) + 1) = ((i + 1 : Nat) : Int) := by rw [wrap_in (by omega) (by omega)]; omega
      have hl : k + ((lv tRevocation x : Nat) : Int) = k + 1 + 1 + 1 := by simp only [lv] <;> omega
      rw [hl] at hb
      rw [hl]
      have hE : mkT tRevocation x k = (k, k + 1, k + 1 + 1) := by first | rfl | (simp [mkT, lv]; try omega)
      have f0 : IntKind.i64.wrap (k + 1) = k + 1 := wrap_in (by omega) (by omega)
      have f1 : IntKind.i64.wrap (k + 1 + 1) = k + 1 + 1 := wrap_in (by omega) (by omega)
      have f2 : IntKind.i64.wrap (k + 1 + 1 + 1) = k + 1 + 1 + 1 := wrap_in (by omega) (by omega)
      rw [hE]
      simp only [hd, hd0, hw, cond_true, Int.toNat_natCast, hx, obind_some, List.length_set, List.getElem?_set_self hi, List.set_set, f0, f1, f2]) (fun k L => by simp) h.1 h.2 hk (by rw [hc]; exact hb), hc]
  rfl

theorem mark_Flow {x : den tFlow} {k : Int} (h : SmB 4611686018427387904 tFlow x) (hk : 0 ≤ k) (hb : k + ((lv (.sl tMessage) x.2.2.2.2.1 : Nat) : Int) + ((lv (.sl tPath) x.2.2.2.2.2.1 : Nat) : Int) + ((lv (.sl tRevocation) x.2.2.2.2.2.2.2.2 : Nat) : Int) ≤ 4611686018427387904) : l_markFlow x k = some (k + ((lv (.sl tMessage) x.2.2.2.2.1 : Nat) : Int) + ((lv (.sl tPath) x.2.2.2.2.2.1 : Nat) : Int) + ((lv (.sl tRevocation) x.2.2.2.2.2.2.2.2 : Nat) : Int), mkT (.sl tMessage) x.2.2.2.2.1 (k), mkT (.sl tPath) x.2.2.2.2.2.1 (k + ((lv (.sl tMessage) x.2.2.2.2.1 : Nat) : Int)), mkT (.sl tRevocation) x.2.2.2.2.2.2.2.2 (k + ((lv (.sl tMessage) x.2.2.2.2.1 : Nat) : Int) + ((lv (.sl tPath) x.2.2.2.2.2.1 : Nat) : Int))) := by
  have q0 := mark_MessageS (l := x.2.2.2.2.1) (k := k) h.2.2.2.2.1 (by omega) (by omega)
  have q1 := mark_PathS (l := x.2.2.2.2.2.1) (k := k + ((lv (.sl tMessage) x.2.2.2.2.1 : Nat) : Int)) h.2.2.2.2.2.1 (by omega) (by omega)
  have q2 := mark_RevocationS (l := x.2.2.2.2.2.2.2.2) (k := k + ((lv (.sl tMessage) x.2.2.2.2.1 : Nat) : Int) + ((lv (.sl tPath) x.2.2.2.2.2.1 : Nat) : Int)) h.2.2.2.2.2.2.2.2 (by omega) (by omega)
  unfold l_markFlow
  simp only [q0, q1, q2, obind_some, peta]

theorem mark_Path {x : den tPath} {k : Int} (h : SmB 4611686018427387904 tPath x) (hk : 0 ≤ k) (hb : k + ((lv (.sl tPathPart) x : Nat) : Int) ≤ 4611686018427387904) : l_markPath x k = some (k + ((lv (.sl tPathPart) x : Nat) : Int), mkT (.sl tPathPart) x (k)) := by
  have q0 := mark_PathPartS (l := x) (k := k) h (by omega) (by omega)
  unfold l_markPath
  simp only [q0, obind_some, peta]

theorem mark_Packet {x : den tPacket} {k : Int} (h : SmB 4611686018427387904 tPacket x) (hk : 0 ≤ k) (hb : k + ((lv (.sl tPathPart) x.2.2.2.1 : Nat) : Int) + ((lv (.sl tb) x.2.2.2.2.2.2.2.2.2 : Nat) : Int) ≤ 4611686018427387904) : l_markPacket x k = some (k + ((lv (.sl tPathPart) x.2.2.2.1 : Nat) : Int) + ((lv (.sl tb) x.2.2.2.2.2.2.2.2.2 : Nat) : Int), mkT (.sl tPathPart) x.2.2.2.1 (k), mkT (.sl tb) x.2.2.2.2.2.2.2.2.2 (k + ((lv (.sl tPathPart) x.2.2.2.1 : Nat) : Int))) := by
  have q0 := mark_Path (x := x.2.2.2.1) (k := k) h.2.2.2.1 (by omega) (by omega)
  have q1 := mark_ByteS (l := x.2.2.2.2.2.2.2.2.2) (k := k + ((lv (.sl tPathPart) x.2.2.2.1 : Nat) : Int)) h.2.2.2.2.2.2.2.2.2 (by omega) (by omega)
  unfold l_markPacket
  simp only [q0, q1, obind_some, peta]

theorem held_ByteS {l : den (.sl tb)} {k : Int} (h : SmB 4611686018427387904 (.sl tb) l) (hk : 0 ≤ k) (hb : k + ((lv (.sl tb) l : Nat) : Int) ≤ 4611686018427387904) : l_heldByteS (mkT (.sl tb) l k) k = some (k + ((lv (.sl tb) l : Nat) : Int)) := by
  have hc := cntAll_sum (lv tb) l
  have hc : k + ((cntAll (lv tb) l : Nat) : Int) = k + ((lv (.sl tb) l : Nat) : Int) := by rw [hc]; rfl
  unfold l_heldByteS
  have := held0 (cE := lv tb) (mE := mkT tb) (SmB 4611686018427387904 tb) (fun (a_a : List Int) => fun (s3 : Int × Int) => cond (decide (s3.2 < (a_a.length : Int))) (Option.bind (idx a_a s3.2) fun x4 => cond (x4 != (IntKind.wrap .u8 s3.1)) (some (Sum.inr (Sum.inr (-1 : Int)))) (some (Sum.inl (wr (s3.1 + (1 : Int)), wr (s3.2 + (1 : Int)))))) (some (Sum.inr (Sum.inl s3.1)))) (l := l) (k := k) (fun k i L x hx hi hN hk hb hp => by
      have hd : decide ((i : Int) < (L.length : Int)) = true := by simpa using hi
      have hd0 : decide ((0 : Int) ≤ (i : Int)) = true := by simp
      have hw : IntKind.i64.wrap ((i : Int) + 1) = ((i + 1 : Nat) : Int) := by rw [wrap_in (by omega) (by omega)]; omega
      have hl : k + ((lv tb x : Nat) : Int) = k + 1 := by simp only [lv] <;> omega
      rw [hl] at hb
      rw [hl]
      have hE : mkT tb x k = IntKind.u8.wrap (k) := by first | rfl | (simp [mkT, lv]; try omega)
      have f0 : IntKind.i64.wrap (k + 1) = k + 1 := wrap_in (by omega) (by omega)
      rw [hE] at hx
      have hi2 : idx L (i : Int) = some (IntKind.u8.wrap (k)) := by rw [idx_nat]; exact hx
      simp only [hd, hw, hi2, cond_true, obind_some, bne_self_eq_false, cond_false, f0]) (fun k L => by simp) h.1 h.2 hk (by rw [hc]; exact hb)
  rw [hc] at this
  show Option.bind (loopM _ (k, (0 : Int))) _ = _
  rw [show (mkT (.sl tb) l k) = markAll (lv tb) (mkT tb) l k from rfl, this]
  rfl

theorem held_MessageS {l : den (.sl tMessage)} {k : Int} (h : SmB 4611686018427387904 (.sl tMessage) l) (hk : 0 ≤ k) (hb : k + ((lv (.sl tMessage) l : Nat) : Int) ≤ 4611686018427387904) : l_heldMessageS (mkT (.sl tMessage) l k) k = some (k + ((lv (.sl tMessage) l : Nat) : Int)) := by
  have hc := cntAll_sum (lv tMessage) l
  have hc : k + ((cntAll (lv tMessage) l : Nat) : Int) = k + ((lv (.sl tMessage) l : Nat) : Int) := by rw [hc]; rfl
  unfold l_heldMessageS
  have := held0 (cE := lv tMessage) (mE := mkT tMessage) (SmB 4611686018427387904 tMessage) (fun (a_a : List (den tMessage)) => fun (s4 : Int × Int) => cond (decide (s4.2 < (a_a.length : Int))) (Option.bind (idx a_a s4.2) fun x5 => Option.bind (l_heldByteS x5 s4.1) fun y6 => cond (decide (y6 < (0 : Int))) (some (Sum.inr (Sum.inr (-1 : Int)))) (some (Sum.inl (y6, wr (s4.2 + (1 : Int)))))) (some (Sum.inr (Sum.inl s4.1)))) (l := l) (k := k) (fun k i L x hx hi hN hk hb hp => by
      have hd : decide ((i : Int) < (L.length : Int)) = true := by simpa using hi
      have hd0 : decide ((0 : Int) ≤ (i : Int)) = true := by simp
      have hw : IntKind.i64.wrap ((i : Int) + 1) = ((i + 1 : Nat) : Int) := by rw [wrap_in (by omega) (by omega)]; omega
      have hl : k + ((lv tMessage x : Nat) : Int) = k + ((lv (.sl tb) x : Nat) : Int) := by simp only [lv] <;> omega
      rw [hl] at hb
      rw [hl]
      have hE : mkT tMessage x k = mkT (.sl tb) x (k) := by first | rfl | (simp [mkT, lv]; try omega)
      have f0 := held_ByteS (l := x) (k := k) hp (by omega) (by omega)
      have g0 : decide (k + ((lv (.sl tb) x : Nat) : Int) < 0) = false := by simp <;> omega
      rw [hE] at hx
      have hi2 : idx L (i : Int) = some (mkT (.sl tb) x (k)) := by rw [idx_nat]; exact hx
      simp only [hd, hw, hi2, cond_true, obind_some, bne_self_eq_false, cond_false, f0, g0]) (fun k L => by simp) h.1 h.2 hk (by rw [hc]; exact hb)
  rw [hc] at this
  show Option.bind (loopM _ (k, (0 : Int))) _ = _
  rw [show (mkT (.sl tMessage) l k) = markAll (lv tMessage) (mkT tMessage) l k from rfl, this]
  rfl

theorem held_HopS {l : den (.sl tHop)} {k : Int} (h : SmB 4611686018427387904 (.sl tHop) l) (hk : 0 ≤ k) (hb : k + ((lv (.sl tHop) l : Nat) : Int) ≤ 4611686018427387904) : l_heldHopS (mkT (.sl tHop) l k) k = some (k + ((lv (.sl tHop) l : Nat) : Int)) := by
  have hc := cntAll_sum (lv tHop) l
  have hc : k + ((cntAll (lv tHop) l : Nat) : Int) = k + ((lv (.sl tHop) l : Nat) : Int) := by rw [hc]; rfl
  unfold l_heldHopS
  have := held0 (cE := lv tHop) (mE := mkT tHop) (SmB 4611686018427387904 tHop) (fun (a_a : List (den tHop)) => fun (s7 : Int × Int) => cond (decide (s7.2 < (a_a.length : Int))) (Option.bind (idx a_a s7.2) fun x8 => cond (x8.1 != s7.1) (some (Sum.inr (Sum.inr (-1 : Int)))) (Option.bind (idx a_a s7.2) fun x9 => cond (x9.2.1 != (wr (s7.1 + (1 : Int)))) (some (Sum.inr (Sum.inr (-1 : Int)))) (Option.bind (idx a_a s7.2) fun x10 => cond (x10.2.2.1 != (wr ((wr (s7.1 + (1 : Int))) + (1 : Int)))) (some (Sum.inr (Sum.inr (-1 : Int)))) (Option.bind (idx a_a s7.2) fun x11 => cond (x11.2.2.2.1 != (wr ((wr ((wr (s7.1 + (1 : Int))) + (1 : Int))) + (1 : Int)))) (some (Sum.inr (Sum.inr (-1 : Int)))) (Option.bind (idx a_a s7.2) fun x12 => cond (x12.2.2.2.2 != (wr ((wr ((wr ((wr (s7.1 + (1 : Int))) + (1 : Int))) + (1 : Int))) + (1 : Int)))) (some (Sum.inr (Sum.inr (-1 : Int)))) (some (Sum.inl (wr ((wr ((wr ((wr ((wr (s7.1 + (1 : Int))) + (1 : Int))) + (1 : Int))) + (1 : Int))) + (1 : Int)), wr (s7.2 + (1 : Int)))))))))) (some (Sum.inr (Sum.inl s7.1)))) (l := l) (k := k) (fun k i L x hx hi hN hk hb hp => by
      have hd : decide ((i : Int) < (L.length : Int)) = true := by simpa using hi
      have hd0 : decide ((0 : Int) ≤ (i : Int)) = true := by simp
      have hw : IntKind.i64.wrap ((i : Int) + 1) = ((i + 1 : Nat) : Int) := by rw [wrap_in (by omega) (by omega)]; omega
      have hl : k + ((lv tHop x : Nat) : Int) = k + 1 + 1 + 1 + 1 + 1 := by simp only [lv] <;> omega
      rw [hl] at hb
      rw [hl]
      have hE : mkT tHop x k = (k, k + 1, k + 1 + 1, k + 1 + 1 + 1, k + 1 + 1 + 1 + 1) := by first | rfl | (simp [mkT, lv]; try omega)
      have f0 : IntKind.i64.wrap (k + 1) = k + 1 := wrap_in (by omega) (by omega)
      have f1 : IntKind.i64.wrap (k + 1 + 1) = k + 1 + 1 := wrap_in (by omega) (by omega)
      have f2 : IntKind.i64.wrap (k + 1 + 1 + 1) = k + 1 + 1 + 1 := wrap_in (by omega) (by omega)
      have f3 : IntKind.i64.wrap (k + 1 + 1 + 1 + 1) = k + 1 + 1 + 1 + 1 := wrap_in (by omega) (by omega)
      have f4 : IntKind.i64.wrap (k + 1 + 1 + 1 + 1 + 1) = k + 1 + 1 + 1 + 1 + 1 := wrap_in (by omega) (by omega)
      rw [hE] at hx
      have hi2 : idx L (i : Int) = some (k, k + 1, k + 1 + 1, k + 1 + 1 + 1, k + 1 + 1 + 1 + 1) := by rw [idx_nat]; exact hx
      simp only [hd, hw, hi2, cond_true, obind_some, bne_self_eq_false, cond_false, f0, f1, f2, f3, f4]) (fun k L => by simp) h.1 h.2 hk (by rw [hc]; exact hb)
  rw [hc] at this
  show Option.bind (loopM _ (k, (0 : Int))) _ = _
  rw [show (mkT (.sl tHop) l k) = markAll (lv tHop) (mkT tHop) l k from rfl, this]
  rfl

theorem held_PathPartS {l : den (.sl tPathPart)} {k : Int} (h : SmB 4611686018427387904 (.sl tPathPart) l) (hk : 0 ≤ k) (hb : k + ((lv (.sl tPathPart) l : Nat) : Int) ≤ 4611686018427387904) : l_heldPathPartS (mkT (.sl tPathPart) l k) k = some (k + ((lv (.sl tPathPart) l : Nat) : Int)) := by
  have hc := cntAll_sum (lv tPathPart) l
  have hc : k + ((cntAll (lv tPathPart) l : Nat) : Int) = k + ((lv (.sl tPathPart) l : Nat) : Int) := by rw [hc]; rfl
  unfold l_heldPathPartS
  have := held0 (cE := lv tPathPart) (mE := mkT tPathPart) (SmB 4611686018427387904 tPathPart) (fun (a_a : List (den tPathPart)) => fun (s7 : Int × Int) => cond (decide (s7.2 < (a_a.length : Int))) (Option.bind (idx a_a s7.2) fun x8 => cond (x8.1 != s7.1) (some (Sum.inr (Sum.inr (-1 : Int)))) (Option.bind (idx a_a s7.2) fun x9 => cond (x9.2.1 != (wr (s7.1 + (1 : Int)))) (some (Sum.inr (Sum.inr (-1 : Int)))) (Option.bind (idx a_a s7.2) fun x10 => cond (x10.2.2.1 != (wr ((wr (s7.1 + (1 : Int))) + (1 : Int)))) (some (Sum.inr (Sum.inr (-1 : Int)))) (Option.bind (idx a_a s7.2) fun x11 => Option.bind (l_heldHopS x11.2.2.2 (wr ((wr ((wr (s7.1 + (1 : Int))) + (1 : Int))) + (1 : Int)))) fun y12 => cond (decide (y12 < (0 : Int))) (some (Sum.inr (Sum.inr (-1 : Int)))) (some (Sum.inl (y12, wr (s7.2 + (1 : Int))))))))) (some (Sum.inr (Sum.inl s7.1)))) (l := l) (k := k) (fun k i L x hx hi hN hk hb hp => by
      have hd : decide ((i : Int) < (L.length : Int)) = true := by simpa using hi
      have hd0 : decide ((0 : Int) ≤ (i : Int)) = true := by simp
      have hw : IntKind.i64.wrap ((i : Int) + 1) = ((i + 1 : Nat) : Int) := by rw [wrap_in (by omega) (by omega)]; omega
      have hl : k + ((lv tPathPart x : Nat) : Int) = k + 1 + 1 + 1 + ((lv (.sl tHop) x.2.2.2 : Nat) : Int) := by simp only [lv] <;> omega
      rw [hl] at hb
      rw [hl]
      have hE : mkT tPathPart x k = (k, k + 1, k + 1 + 1, mkT (.sl tHop) x.2.2.2 (k + 1 + 1 + 1)) := by first | rfl | (simp [mkT, lv]; try omega)
      have f0 : IntKind.i64.wrap (k + 1) = k + 1 := wrap_in (by omega) (by omega)
      have f1 : IntKind.i64.wrap (k + 1 + 1) = k + 1 + 1 := wrap_in (by omega) (by omega)
      have f2 : IntKind.i64.wrap (k + 1 + 1 + 1) = k + 1 + 1 + 1 := wrap_in (by omega) (by omega)
      have f3 := held_HopS (l := x.2.2.2) (k := k + 1 + 1 + 1) hp.2.2.2 (by omega) (by omega)
      have g3 : decide (k + 1 + 1 + 1 + ((lv (.sl tHop) x.2.2.2 : Nat) : Int) < 0) = false := by simp <;> omega
      rw [hE] at hx
      have hi2 : idx L (i : Int) = some (k, k + 1, k + 1 + 1, mkT (.sl tHop) x.2.2.2 (k + 1 + 1 + 1)) := by rw [idx_nat]; exact hx
      simp only [hd, hw, hi2, cond_true, obind_some, bne_self_eq_false, cond_false, f0, f1, f2, f3, g3]) (fun k L => by simp) h.1 h.2 hk (by rw [hc]; exact hb)
  rw [hc] at this
  show Option.bind (loopM _ (k, (0 : Int))) _ = _
  rw [show (mkT (.sl tPathPart) l k) = markAll (lv tPathPart) (mkT tPathPart) l k from rfl, this]
  rfl

theorem held_PathS {l : den (.sl tPath)} {k : Int} (h : SmB 4611686018427387904 (.sl tPath) l) (hk : 0 ≤ k) (hb : k + ((lv (.sl tPath) l : Nat) : Int) ≤ 4611686018427387904) : l_heldPathS (mkT (.sl tPath) l k) k = some (k + ((lv (.sl tPath) l : Nat) : Int)) := by
  have hc := cntAll_sum (lv tPath) l
  have hc : k + ((cntAll (lv tPath) l : Nat) : Int) = k + ((lv (.sl tPath) l : Nat) : Int) := by rw [hc]; rfl
  unfold l_heldPathS
  have := held0 (cE := lv tPath) (mE := mkT tPath) (SmB 4611686018427387904 tPath) (fun (a_a : List (den tPath)) => fun (s4 : Int × Int) => cond (decide (s4.2 < (a_a.length : Int))) (Option.bind (idx a_a s4.2) fun x5 => Option.bind (l_heldPathPartS x5 s4.1) fun y6 => cond (decide (y6 < (0 : Int))) (some (Sum.inr (Sum.inr (-1 : Int)))) (some (Sum.inl (y6, wr (s4.2 + (1 : Int)))))) (some (Sum.inr (Sum.inl s4.1)))) (l := l) (k := k) (fun k i L x hx hi hN hk hb hp => by
      have hd : decide ((i : Int) < (L.length : Int)) = true := by simpa using hi
      have hd0 : decide ((0 : Int) ≤ (i : Int)) = true := by simp
      have hw : IntKind.i64.wrap ((i : Int) + 1) = ((i + 1 : Nat) : Int) := by rw [wrap_in (by omega) (by omega)]; omega
      have hl : k + ((lv tPath x : Nat) : Int) = k + ((lv (.sl tPathPart) x : Nat) : Int) := by simp only [lv] <;> omega
      rw [hl] at hb
      rw [hl]
      have hE : mkT tPath x k = mkT (.sl tPathPart) x (k) := by first | rfl | (simp [mkT, lv]; try omega)
      have f0 := held_PathPartS (l := x) (k := k) hp (by omega) (by omega)
      have g0 : decide (k + ((lv (.sl tPathPart) x : Nat) : Int) < 0) = false := by simp <;> omega
      rw [hE] at hx
      have hi2 : idx L (i : Int) = some (mkT (.sl tPathPart) x (k)) := by rw [idx_nat]; exact hx
      simp only [hd, hw, hi2, cond_true, obind_some, bne_self_eq_false, cond_false, f0, g0]) (fun k L => by simp) h.1 h.2 hk (by rw [hc]; exact hb)
  rw [hc] at this
  show Option.bind (loopM _ (k, (0 : Int))) _ = _
  rw [show (mkT (.sl tPath) l k) = markAll (lv tPath) (mkT tPath) l k from rfl, this]
  rfl

theorem held_RevocationS {l : den (.sl tRevocation)} {k : Int} (h : SmB 4611686018427387904 (.sl tRevocation) l) (hk : 0 ≤ k) (hb : k + ((lv (.sl tRevocation) l : Nat) : Int) ≤ 4611686018427387904) : l_heldRevocationS (mkT (.sl tRevocation) l k) k = some (k + ((lv (.sl tRevocation) l : Nat) : Int)) := by
  have hc := cntAll_sum (lv tRevocation) l
  have hc : k + ((cntAll (lv tRevocation) l : Nat) : Int) = k + ((lv (.sl tRevocation) l : Nat) : Int) := by rw [hc]; rfl
  unfold l_heldRevocationS
  have := held0 (cE := lv tRevocation) (mE := mkT tRevocation) (SmB 4611686018427387904 tRevocation) (fun (a_a : List (den tRevocation)) => fun (s5 : Int × Int) => cond (decide (s5.2 < (a_a.length : Int))) (Option.bind (idx a_a s5.2) fun x6 => cond (x6.1 != s5.1) (some (Sum.inr (Sum.inr (-1 : Int)))) (Option.bind (idx a_a s5.2) fun x7 => cond (x7.2.1 != (wr (s5.1 + (1 : Int)))) (some (Sum.inr (Sum.inr (-1 : Int)))) (Option.bind (idx a_a s5.2) fun x8 => cond (x8.2.2 != (wr ((wr (s5.1 + (1 : Int))) + (1 : Int)))) (some (Sum.inr (Sum.inr (-1 : Int)))) (some (Sum.inl (wr ((wr ((wr (s5.1 + (1 : Int))) + (1 : Int))) + (1 : Int)), wr (s5.2 + (1 : Int)))))))) (some (Sum.inr (Sum.inl s5.1)))) (l := l) (k := k) (fun k i L x hx hi hN hk hb hp => by
      have hd : decide ((i : Int) < (L.length : Int)) = true := by simpa using hi
      have hd0 : decide ((0 : Int) ≤ (i : Int)) = true := by simp
      have hw : IntKind.i64.wrap ((i : Int) + 1) = ((i + 1 : Nat) : Int) := by rw [wrap_in (by omega) (by omega)]; omega
      have hl : k + ((lv tRevocation x : Nat) : Int) = k + 1 + 1 + 1 := by simp only [lv] <;> omega
      rw [hl] at hb
      rw [hl]
      have hE : mkT tRevocation x k = (k, k + 1, k + 1 + 1) := by first | rfl | (simp [mkT, lv]; try omega)
      have f0 : IntKind.i64.wrap (k + 1) = k + 1 := wrap_in (by omega) (by omega)
      have f1 : IntKind.i64.wrap (k + 1 + 1) = k + 1 + 1 := wrap_in (by omega) (by omega)
      have f2 : IntKind.i64.wrap (k + 1 + 1 + 1) = k + 1 + 1 + 1 := wrap_in (by omega) (by omega)
      rw [hE] at hx
      have hi2 : idx L (i : Int) = some (k, k + 1, k + 1 + 1) := by rw [idx_nat]; exact hx
      simp only [hd, hw, hi2, cond_true, obind_some, bne_self_eq_false, cond_false, f0, f1, f2]) (fun k L => by simp) h.1 h.2 hk (by rw [hc]; exact hb)
  rw [hc] at this
  show Option.bind (loopM _ (k, (0 : Int))) _ = _
  rw [show (mkT (.sl tRevocation) l k) = markAll (lv tRevocation) (mkT tRevocation) l k from rfl, this]
  rfl

theorem held_Flow {x : den tFlow} {k : Int} (h : SmB 4611686018427387904 tFlow x) (hk : 0 ≤ k) (hb : k + ((lv (.sl tMessage) x.2.2.2.2.1 : Nat) : Int) + ((lv (.sl tPath) x.2.2.2.2.2.1 : Nat) : Int) + ((lv (.sl tRevocation) x.2.2.2.2.2.2.2.2 : Nat) : Int) ≤ 4611686018427387904) : l_heldFlow (x.1, x.2.1, x.2.2.1, x.2.2.2.1, mkT (.sl tMessage) x.2.2.2.2.1 (k), mkT (.sl tPath) x.2.2.2.2.2.1 (k + ((lv (.sl tMessage) x.2.2.2.2.1 : Nat) : Int)), x.2.2.2.2.2.2.1, x.2.2.2.2.2.2.2.1, mkT (.sl tRevocation) x.2.2.2.2.2.2.2.2 (k + ((lv (.sl tMessage) x.2.2.2.2.1 : Nat) : Int) + ((lv (.sl tPath) x.2.2.2.2.2.1 : Nat) : Int))) k = some (k + ((lv (.sl tMessage) x.2.2.2.2.1 : Nat) : Int) + ((lv (.sl tPath) x.2.2.2.2.2.1 : Nat) : Int) + ((lv (.sl tRevocation) x.2.2.2.2.2.2.2.2 : Nat) : Int)) := by
  have q0 := held_MessageS (l := x.2.2.2.2.1) (k := k) h.2.2.2.2.1 (by omega) (by omega)
  have q1 := held_PathS (l := x.2.2.2.2.2.1) (k := k + ((lv (.sl tMessage) x.2.2.2.2.1 : Nat) : Int)) h.2.2.2.2.2.1 (by omega) (by omega)
  have q2 := held_RevocationS (l := x.2.2.2.2.2.2.2.2) (k := k + ((lv (.sl tMessage) x.2.2.2.2.1 : Nat) : Int) + ((lv (.sl tPath) x.2.2.2.2.2.1 : Nat) : Int)) h.2.2.2.2.2.2.2.2 (by omega) (by omega)
  have d0 : decide (k + ((lv (.sl tMessage) x.2.2.2.2.1 : Nat) : Int) < 0) = false := by simp <;> omega
  have d1 : decide (k + ((lv (.sl tMessage) x.2.2.2.2.1 : Nat) : Int) + ((lv (.sl tPath) x.2.2.2.2.2.1 : Nat) : Int) < 0) = false := by simp <;> omega
  have d2 : decide (k + ((lv (.sl tMessage) x.2.2.2.2.1 : Nat) : Int) + ((lv (.sl tPath) x.2.2.2.2.2.1 : Nat) : Int) + ((lv (.sl tRevocation) x.2.2.2.2.2.2.2.2 : Nat) : Int) < 0) = false := by simp <;> omega
  unfold l_heldFlow
  simp only [q0, q1, q2, d0, d1, d2, obind_some, peta, cond_false]

theorem held_Path {x : den tPath} {k : Int} (h : SmB 4611686018427387904 tPath x) (hk : 0 ≤ k) (hb : k + ((lv (.sl tPathPart) x : Nat) : Int) ≤ 4611686018427387904) : l_heldPath (mkT (.sl tPathPart) x (k)) k = some (k + ((lv (.sl tPathPart) x : Nat) : Int)) := by
  have q0 := held_PathPartS (l := x) (k := k) h (by omega) (by omega)
  have d0 : decide (k + ((lv (.sl tPathPart) x : Nat) : Int) < 0) = false := by simp <;> omega
  unfold l_heldPath
  simp only [q0, d0, obind_some, peta, cond_false]

theorem held_Packet {x : den tPacket} {k : Int} (h : SmB 4611686018427387904 tPacket x) (hk : 0 ≤ k) (hb : k + ((lv (.sl tPathPart) x.2.2.2.1 : Nat) : Int) + ((lv (.sl tb) x.2.2.2.2.2.2.2.2.2 : Nat) : Int) ≤ 4611686018427387904) : l_heldPacket (x.1, x.2.1, x.2.2.1, mkT (.sl tPathPart) x.2.2.2.1 (k), x.2.2.2.2.1, x.2.2.2.2.2.1, x.2.2.2.2.2.2.1, x.2.2.2.2.2.2.2.1, x.2.2.2.2.2.2.2.2.1, mkT (.sl tb) x.2.2.2.2.2.2.2.2.2 (k + ((lv (.sl tPathPart) x.2.2.2.1 : Nat) : Int))) k = some (k + ((lv (.sl tPathPart) x.2.2.2.1 : Nat) : Int) + ((lv (.sl tb) x.2.2.2.2.2.2.2.2.2 : Nat) : Int)) := by
  have q0 := held_Path (x := x.2.2.2.1) (k := k) h.2.2.2.1 (by omega) (by omega)
  have q1 := held_ByteS (l := x.2.2.2.2.2.2.2.2.2) (k := k + ((lv (.sl tPathPart) x.2.2.2.1 : Nat) : Int)) h.2.2.2.2.2.2.2.2.2 (by omega) (by omega)
  have d0 : decide (k + ((lv (.sl tPathPart) x.2.2.2.1 : Nat) : Int) < 0) = false := by simp <;> omega
  have d1 : decide (k + ((lv (.sl tPathPart) x.2.2.2.1 : Nat) : Int) + ((lv (.sl tb) x.2.2.2.2.2.2.2.2.2 : Nat) : Int) < 0) = false := by simp <;> omega
  unfold l_heldPacket
  simp only [q0, q1, d0, d1, obind_some, peta, cond_false]

def inR (n a b : Int) : Bool := decide (a ≤ n) && decide (n ≤ b)

theorem i_in (n a b : Int) : i_InRange n a b = some (inR n a b) := by
  unfold i_InRange inR
  by_cases h : a ≤ n <;> simp [h]

theorem s_in (n a b : Int) : s_l1In n a b = some (inR n a b) := by
  unfold s_l1In inR
  by_cases h : a ≤ n <;> simp [h]

theorem inR_iff {n a b : Int} : inR n a b = true ↔ a ≤ n ∧ n ≤ b := by simp [inR]

theorem i_copyB {b : List Int} (h : b.length ≤ 68719476736) : i_copyBytes b = some b := by
  unfold i_copyBytes
  rw [apOk_le (by decide) (by simpa using h)]; simp

theorem i_copyH {l : List (den tHop)} (h : l.length ≤ 68719476736) : i_copyHops l = some l := by
  unfold i_copyHops
  rw [apOk_le (by decide) (by simpa using h)]; simp

theorem i_copyV {l : List (den tRevocation)} (h : l.length ≤ 68719476736) : i_copyRevocations l = some l := by
  unfold i_copyRevocations
  rw [apOk_le (by decide) (by simpa using h)]; simp

theorem s_copyPt {p : den tPathPart} (h : SmB 68719476736 tPathPart p) : s_l21Copy p = some p := by
  unfold s_l21Copy
  rw [apOk_le (by decide) (by simpa using h.2.2.2.1)]; simp

theorem i_copyP {p : den tPath} (h : SmB 68719476736 tPath p) : i_copyPath p = some p := by
  unfold i_copyPath
  rw [(loopF (fun k (a : List (den tPathPart)) => ((k : Int), a)) ((0 : Int), []) [] p (fun _ x a => a ++ [x]) List.length (fun _ => 1) 68719476736 id rfl (Nat.le_trans h.1 (by decide)) (by rw [sum_one]; simpa using h.1) (fun k x a hi hx hd hw hk hb => by
    have e := h.2 x (List.mem_of_getElem? hx)
    simp only [hd, hi, hw, cond_true, obind_some, i_copyH e.2.2.2.1, peta, apOk_le (b := 48) (by decide) hb]
    simp) (fun a => by simp)).1, foldI_map (fun x => x)]
  simp

theorem s_copyP {p : den tPath} (h : SmB 68719476736 tPath p) : s_l22Copy p = some p := by
  unfold s_l22Copy
  rw [(loopF (fun k (a : List (den tPathPart)) => ((k : Int), a)) ((0 : Int), []) [] p (fun _ x a => a ++ [x]) List.length (fun _ => 1) 68719476736 id rfl (Nat.le_trans h.1 (by decide)) (by rw [sum_one]; simpa using h.1) (fun k x a hi hx hd hw hk hb => by
    have e := h.2 x (List.mem_of_getElem? hx)
    simp only [hd, hi, hw, cond_true, obind_some, peta, s_copyPt e, apOk_le (b := 48) (by decide) hb]
    simp) (fun a => by simp)).1, foldI_map (fun x => x)]
  simp

theorem i_copyPs {l : List (den tPath)} (h : SmB 68719476736 (.sl tPath) l) : i_copyPaths l = some l := by
  unfold i_copyPaths
  rw [(loopF (fun k (a : List (den tPath)) => ((k : Int), a)) ((0 : Int), []) [] l (fun _ x a => a ++ [x]) List.length (fun _ => 1) 68719476736 id rfl (Nat.le_trans h.1 (by decide)) (by rw [sum_one]; simpa using h.1) (fun k x a hi hx hd hw hk hb => by
    have e := h.2 x (List.mem_of_getElem? hx)
    simp only [hd, hi, hw, cond_true, obind_some, i_copyP e, apOk_le (b := 24) (by decide) hb]
    simp) (fun a => by simp)).1, foldI_map (fun x => x)]
  simp

theorem s_copyPs {l : List (den tPath)} (h : SmB 68719476736 (.sl tPath) l) : s_l24Copy l = some l := by
  unfold s_l24Copy
  rw [(loopF (fun k (a : List (den tPath)) => ((k : Int), a)) ((0 : Int), []) [] l (fun _ x a => a ++ [x]) List.length (fun _ => 1) 68719476736 id rfl (Nat.le_trans h.1 (by decide)) (by rw [sum_one]; simpa using h.1) (fun k x a hi hx hd hw hk hb => by
    have e := h.2 x (List.mem_of_getElem? hx)
    simp only [hd, hi, hw, cond_true, obind_some, s_copyP e, apOk_le (b := 24) (by decide) hb]
    simp) (fun a => by simp)).1, foldI_map (fun x => x)]
  simp

theorem i_copyM {l : List (den tMessage)} (h : SmB 68719476736 (.sl tMessage) l) : i_copyMessages l = some l := by
  unfold i_copyMessages
  rw [(loopF (fun k (a : List (den tMessage)) => ((k : Int), a)) ((0 : Int), []) [] l (fun _ x a => a ++ [x]) List.length (fun _ => 1) 68719476736 id rfl (Nat.le_trans h.1 (by decide)) (by rw [sum_one]; simpa using h.1) (fun k x a hi hx hd hw hk hb => by
    have e := h.2 x (List.mem_of_getElem? hx)
    simp only [hd, hi, hw, cond_true, obind_some, i_copyB e.1, apOk_le (b := 24) (by decide) hb]
    simp) (fun a => by simp)).1, foldI_map (fun x => x)]
  simp

theorem s_copyM {l : List (den tMessage)} (h : SmB 68719476736 (.sl tMessage) l) : s_l35Texts l = some l := by
  unfold s_l35Texts
  rw [(loopF (fun k (a : List (den tMessage)) => ((k : Int), a)) ((0 : Int), []) [] l (fun _ x a => a ++ [x]) List.length (fun _ => 1) 68719476736 id rfl (Nat.le_trans h.1 (by decide)) (by rw [sum_one]; simpa using h.1) (fun k x a hi hx hd hw hk hb => by
    have e := h.2 x (List.mem_of_getElem? hx)
    simp only [hd, hi, hw, cond_true, obind_some, apOk_le (b := 1) (n := ([] : List Int).length) (by decide) (by simpa using e.1), apOk_le (b := 24) (by decide) hb]
    simp) (fun a => by simp)).1, foldI_map (fun x => x)]
  simp

/-- A flow as it is handed back: its slices last. -/
def flowR (f : den tFlow) : Int × Int × Int × Int × Int × Int × (List (den tMessage)) × (List (den tPath)) × (List (den tRevocation)) := (f.1, f.2.1, f.2.2.1, f.2.2.2.1, f.2.2.2.2.2.2.1, f.2.2.2.2.2.2.2.1, f.2.2.2.2.1, f.2.2.2.2.2.1, f.2.2.2.2.2.2.2.2)

theorem i_copyF {f : den tFlow} (h : SmB 68719476736 tFlow f) : i_copyFlow f = some (flowR f) := by
  unfold i_copyFlow flowR
  simp only [i_copyM h.2.2.2.2.1, i_copyPs h.2.2.2.2.2.1, i_copyV h.2.2.2.2.2.2.2.2.1, obind_some]

theorem s_copyF {f : den tFlow} (h : SmB 68719476736 tFlow f) : s_l35Copy f = some (flowR f) := by
  unfold s_l35Copy flowR
  simp only [s_copyM h.2.2.2.2.1, s_copyPs h.2.2.2.2.2.1, obind_some, apOk_le (b := 24) (n := ([] : List (den tRevocation)).length) (by decide) (by simpa using h.2.2.2.2.2.2.2.2.1), cond_true, List.nil_append]

def isRev (k : Int) : Bool := k == 1 || k == 3

theorem i_isRev (k : Int) : i_IsReversed k = some (isRev k) := by
  unfold i_IsReversed isRev
  cases k == 1 <;> rfl

theorem s_isRev (k : Int) : s_IsReversed k = some (isRev k) := by
  unfold s_IsReversed isRev
  cases k == 1 <;> rfl

def pIn (p : den tPathPart) (h : den tHop) : Int := if isRev p.1 then h.2.2.1 else h.2.1

def pEg (p : den tPathPart) (h : den tHop) : Int := if isRev p.1 then h.2.1 else h.2.2.1

theorem wr_len {n : Nat} (h : n ≤ 68719476736) : wr ((n : Int) - 1) = (n : Int) - 1 := wrap_in (by omega) (by omega)

theorem inR_idx {k n : Nat} (h : k < n) : inR (k : Int) 0 ((n : Int) - 1) = true := by rw [inR_iff]; omega

theorem i_pIn {p : den tPathPart} {k : Nat} {h : den tHop} (hk : p.2.2.2[k]? = some h) (hl : p.2.2.2.length ≤ 68719476736) : i_PartIngress p (k : Int) = some (pIn p h) := by
  have hlt : k < p.2.2.2.length := (List.getElem?_eq_some_iff.1 hk).1
  unfold i_PartIngress pIn
  simp only [i_in, wr_len hl, inR_idx hlt, obind_some, Bool.not_true, cond_false, i_isRev, idx_nat, hk]
  cases isRev p.1 <;> rfl

theorem s_pIn {p : den tPathPart} {k : Nat} {h : den tHop} (hk : p.2.2.2[k]? = some h) (hl : p.2.2.2.length ≤ 68719476736) : s_PartIngress p (k : Int) = some (pIn p h) := by
  have hlt : k < p.2.2.2.length := (List.getElem?_eq_some_iff.1 hk).1
  unfold s_PartIngress pIn
  simp only [s_in, wr_len hl, inR_idx hlt, obind_some, Bool.not_true, cond_false, s_isRev, idx_nat, hk]
  cases isRev p.1 <;> rfl

theorem i_pEg {p : den tPathPart} {k : Nat} {h : den tHop} (hk : p.2.2.2[k]? = some h) (hl : p.2.2.2.length ≤ 68719476736) : i_PartEgress p (k : Int) = some (pEg p h) := by
  have hlt : k < p.2.2.2.length := (List.getElem?_eq_some_iff.1 hk).1
  unfold i_PartEgress pEg
  simp only [i_in, wr_len hl, inR_idx hlt, obind_some, Bool.not_true, cond_false, i_isRev, idx_nat, hk]
  cases isRev p.1 <;> rfl

theorem s_pEg {p : den tPathPart} {k : Nat} {h : den tHop} (hk : p.2.2.2[k]? = some h) (hl : p.2.2.2.length ≤ 68719476736) : s_PartEgress p (k : Int) = some (pEg p h) := by
  have hlt : k < p.2.2.2.length := (List.getElem?_eq_some_iff.1 hk).1
  unfold s_PartEgress pEg
  simp only [s_in, wr_len hl, inR_idx hlt, obind_some, Bool.not_true, cond_false, s_isRev, idx_nat, hk]
  cases isRev p.1 <;> rfl

def addS (nf : Bool) (p : den tPathPart) (i : Nat) (h : den tHop) (out : List (den tStep)) : List (den tStep) :=
  match out.getLast? with
  | some z => if nf && (decide (i = 0) && z.1 == h.1) then out.dropLast ++ [(h.1, z.2.1, pEg p h)] else out ++ [(h.1, pIn p h, pEg p h)]
  | none => out ++ [(h.1, pIn p h, pEg p h)]

theorem addS_len (nf : Bool) (p : den tPathPart) (i : Nat) (h : den tHop) (out : List (den tStep)) : (addS nf p i h out).length ≤ out.length + 1 := by
  unfold addS
  split
  · split
    · simp only [List.length_append, List.length_dropLast, List.length_singleton]; omega
    · simp
  · simp

def partS (nf : Bool) (p : den tPathPart) (a : List (den tStep)) : List (den tStep) := foldI (fun i h b => addS nf p i h b) 0 p.2.2.2 a

def steps0 (p : den tPath) : List (den tStep) := foldI (fun k x a => partS (decide (0 < k)) x a) 0 p []

def endS (l : List (den tStep)) : List (den tStep) :=
  match l with
  | [] => []
  | x :: xs => let m := (x.1, 0, x.2.2) :: xs
    match m.getLast? with
    | some y => m.dropLast ++ [(y.1, y.2.1, 0)]
    | none => []

def steps (p : den tPath) : List (den tStep) := endS (steps0 p)

theorem endS_len (l : List (den tStep)) : (endS l).length = l.length := by
  unfold endS
  split
  · rfl
  · rename_i x xs
    simp only
    rw [List.getLast?_eq_some_getLast (by simp)]
    simp

theorem hops_sum (p : den tPath) : (p.map fun x => x.2.2.2.length).sum ≤ tot tPath p := by
  show _ ≤ tot (.sl tPathPart) p
  rw [← tot_sum]
  induction p with
  | nil => exact Nat.le_refl _
  | cons x p ih =>
    simp only [List.map_cons, List.sum_cons]
    have h1 : x.2.2.2.length ≤ tot tPathPart x := by
      show _ ≤ tot ti x.1 + (tot ti x.2.1 + (tot ti x.2.2.1 + tot (.sl tHop) x.2.2.2))
      rw [tot_flatL rfl]; omega
    omega

theorem wr_pos {n : Nat} (h : n ≤ 68719476736) (h0 : 0 < n) : wr ((n : Int) - 1) = ((n - 1 : Nat) : Int) := by
  rw [wr_len h]; omega

theorem wr_last {α : Type} {m : List α} {z : α} (h : (m ++ [z]).length ≤ 68719476736) : wr (((m ++ [z]).length : Int) - 1) = (m.length : Int) := by
  rw [wr_pos h (by simp)]; simp

theorem partS_len (nf : Bool) (p : den tPathPart) (a : List (den tStep)) : (partS nf p a).length ≤ a.length + p.2.2.2.length := by
  have := foldI_m (m := List.length) (cost := fun _ => 1) (fun i h b => addS_len nf p i h b) p.2.2.2 0 a
  rw [sum_one] at this
  exact this

theorem steps0_len (p : den tPath) : (steps0 p).length ≤ tot tPath p := by
  have := foldI_m (m := List.length) (cost := fun x : den tPathPart => x.2.2.2.length) (fun k x a => partS_len (decide (0 < k)) x a) p 0 []
  have h2 := hops_sum p
  have h3 : (steps0 p).length ≤ 0 + (p.map fun x => x.2.2.2.length).sum := this
  omega

theorem steps_len (p : den tPath) : (steps p).length ≤ tot tPath p := by
  unfold steps; rw [endS_len]; exact steps0_len p

theorem dec_pos (k : Nat) : decide ((k : Int) > 0) = decide (0 < k) := by rw [Bool.eq_iff_iff]; simp

theorem dec_zero (i : Nat) : ((i : Int) == 0) = decide (i = 0) := by rw [Bool.eq_iff_iff]; simp

theorem addS_nil (nf : Bool) (p : den tPathPart) (i : Nat) (h : den tHop) : addS nf p i h [] = [(h.1, pIn p h, pEg p h)] := rfl

theorem addS_last (nf : Bool) (p : den tPathPart) (i : Nat) (h : den tHop) (m : List (den tStep)) (z : den tStep) : addS nf p i h (m ++ [z]) = if nf && (decide (i = 0) && z.1 == h.1) then m ++ [(h.1, z.2.1, pEg p h)] else (m ++ [z]) ++ [(h.1, pIn p h, pEg p h)] := by
  unfold addS
  rw [List.getLast?_concat, List.dropLast_concat]

theorem endS_some {m : List (den tStep)} {x z : den tStep} {xs : List (den tStep)} (h : (x.1, (0 : Int), x.2.2) :: xs = m ++ [z]) : endS (x :: xs) = m ++ [(z.1, z.2.1, 0)] := by
  unfold endS
  simp only
  rw [h, List.getLast?_concat, List.dropLast_concat]

theorem i_steps {p : den tPath} (h : tot tPath p ≤ 34359738368) : i_PathSteps p = some (steps p) := by
  have hs := hops_sum p
  have sm : SmB 34359738368 tPath p := sm_of_tot h
  have hl := steps0_len p
  unfold i_PathSteps
  rw [loopG (fun k (a : List (den tStep)) => ((k : Int), a)) ((0 : Int), []) [] p (fun k x a => partS (decide (0 < k)) x a) List.length (fun x => x.2.2.2.length) 34359738368 id rfl (Nat.le_trans sm.1 (by decide)) (by simp only [List.length_nil]; omega) (fun k x a => partS_len _ x a) (fun k x a hi hx hd hw hk hb => by
    have hxl : x.2.2.2.length ≤ 34359738368 := (sm.2 x (List.mem_of_getElem? hx)).2.2.2.1
    simp only [hd, hi, hw, cond_true, obind_some]
    rw [loopG (fun i (b : List (den tStep)) => ((i : Int), b)) ((0 : Int), a) a x.2.2.2 (fun i h b => addS (decide (0 < k)) x i h b) List.length (fun _ => 1) 34359738368 id rfl (Nat.le_trans hxl (by decide)) (by rw [sum_one]; exact hb) (fun i h b => addS_len _ x i h b) (fun i g b hi2 hg hd2 hw2 hk2 hb2 => by
      have hl2 : x.2.2.2.length ≤ 68719476736 := by omega
      simp only [hd2, hi2, hw2, cond_true, obind_some, peta, i_pIn hg hl2, i_pEg hg hl2, dec_pos, dec_zero, apOk_le (b := 24) (n := b.length) (m := 1) (by decide) (by omega)]
      rcases nil_or_concat b with rfl | ⟨m, z, rfl⟩
      · rw [addS_nil]
        cases decide (0 < k) <;> cases decide (i = 0) <;> rfl
      · rw [addS_last, wr_last (by omega)]
        simp only [pos_nat, pos_nat', lt_last, get_last, cond_true, Int.toNat_natCast, obind_some, set_last]
        cases decide (0 < k) <;> cases decide (i = 0) <;> cases hz : z.1 == g.1 <;> simp [hz]
        simpa using hz) (fun b => by simp)]
    rfl) (fun a => by simp)]
  simp only [obind_some, id]
  rw [show foldI (fun k x a => partS (decide (0 < k)) x a) 0 p [] = steps0 p from rfl]
  show _ = some (endS (steps0 p))
  generalize steps0 p = l at hl
  cases l with
  | nil => rfl
  | cons x xs =>
    have e1 : decide ((((x :: xs).length : Nat) : Int) > 0) = true := by simp
    have e2 : decide ((0 : Int) < (((x :: xs).length : Nat) : Int)) = true := by simp
    have e3 : (0 : Int).toNat = 0 := rfl
    have e4 : decide ((0 : Int) ≤ 0) = true := rfl
    simp only [e1, e2, e3, e4, cond_true, List.getElem?_cons_zero, obind_some, List.set_cons_zero]
    rcases nil_or_concat ((x.1, (0 : Int), x.2.2) :: xs) with h0 | ⟨m, z, hm⟩
    · cases h0
    · have hlen : ((x.1, (0 : Int), x.2.2) :: xs).length = (x :: xs).length := rfl
      rw [endS_some hm]
      rw [hm] at hlen ⊢
      rw [wr_last (by omega)]
      simp only [pos_nat, lt_last, get_last, cond_true, Int.toNat_natCast, obind_some, set_last]

theorem s_steps {p : den tPath} (h : tot tPath p ≤ 34359738368) : s_PathSteps p = some (steps p) := by
  have hs := hops_sum p
  have sm : SmB 34359738368 tPath p := sm_of_tot h
  have hl := steps0_len p
  unfold s_PathSteps
  rw [loopG (fun k (a : List (den tStep)) => ((k : Int), a)) ((0 : Int), []) [] p (fun k x a => partS (decide (0 < k)) x a) List.length (fun x => x.2.2.2.length) 34359738368 id rfl (Nat.le_trans sm.1 (by decide)) (by simp only [List.length_nil]; omega) (fun k x a => partS_len _ x a) (fun k x a hi hx hd hw hk hb => by
    have hxl : x.2.2.2.length ≤ 34359738368 := (sm.2 x (List.mem_of_getElem? hx)).2.2.2.1
    simp only [hd, hi, hw, cond_true, obind_some]
    rw [loopG (fun i (b : List (den tStep)) => ((i : Int), b)) ((0 : Int), a) a x.2.2.2 (fun i h b => addS (decide (0 < k)) x i h b) List.length (fun _ => 1) 34359738368 id rfl (Nat.le_trans hxl (by decide)) (by rw [sum_one]; exact hb) (fun i h b => addS_len _ x i h b) (fun i g b hi2 hg hd2 hw2 hk2 hb2 => by
      have hl2 : x.2.2.2.length ≤ 68719476736 := by omega
      simp only [hd2, hi2, hw2, cond_true, obind_some, peta, s_pIn hg hl2, s_pEg hg hl2, both_self, dec_pos, dec_zero]
      rcases nil_or_concat b with rfl | ⟨m, z, rfl⟩
      · rw [addS_nil]
        cases decide (0 < k) <;> cases decide (i = 0) <;> rfl
      · rw [addS_last, wr_last (by omega)]
        have e1 : decide (((m ++ [z]).length : Int) > 0) = true := by simp
        have e2 : slOk (0 : Int) (m.length : Int) ((m ++ [z]).length : Int) = true := by simp [slOk]; omega
        have e3 : (m ++ [z]).take m.length = m := by simp
        have e4 := apOk_le (b := 24) (n := m.length) (m := 1) (by decide) (by simp at hb2; omega)
        have e5 := apOk_le (b := 24) (n := m.length + 1) (m := 1) (by decide) (by simp at hb2; omega)
        simp only [pos_nat, e1, e2, e3, lt_last, get_last, cond_true, Int.toNat_natCast, obind_some]
        cases decide (0 < k) <;> cases decide (i = 0) <;> cases hz : z.1 == g.1 <;> simp [hz, e4, e5]) (fun b => by simp [hi])]
    rfl) (fun a => by simp)]
  simp only [obind_some, id]
  rw [show foldI (fun k x a => partS (decide (0 < k)) x a) 0 p [] = steps0 p from rfl]
  show _ = some (endS (steps0 p))
  generalize steps0 p = l at hl
  cases l with
  | nil => rfl
  | cons x xs =>
    have e1 : decide ((((x :: xs).length : Nat) : Int) > 0) = true := by simp
    have e2 : decide ((0 : Int) < (((x :: xs).length : Nat) : Int)) = true := by simp
    have e3 : (0 : Int).toNat = 0 := rfl
    have e4 : decide ((0 : Int) ≤ 0) = true := rfl
    have e5 : decide (0 < (x :: xs).length) = true := by simp
    simp only [e1, e2, e3, e4, e5, cond_true, List.getElem?_cons_zero, obind_some, List.set_cons_zero]
    rcases nil_or_concat ((x.1, (0 : Int), x.2.2) :: xs) with h0 | ⟨m, z, hm⟩
    · cases h0
    · have hlen : ((x.1, (0 : Int), x.2.2) :: xs).length = (x :: xs).length := rfl
      rw [endS_some hm]
      rw [hm] at hlen ⊢
      rw [wr_last (by omega)]
      have e6 : decide (m.length < (m ++ [z]).length) = true := by simp
      simp only [pos_nat, lt_last, get_last, e6, cond_true, Int.toNat_natCast, obind_some, set_last]

def ends (p : den tPath) : Int × Int :=
  match (steps p).head?, (steps p).getLast? with
  | some x, some y => (x.1, y.1)
  | _, _ => (-1, -1)

theorem i_ends {p : den tPath} (h : tot tPath p ≤ 34359738368) : i_Endpoints p = some (ends p) := by
  unfold i_Endpoints ends
  have hl := steps_len p
  rw [i_steps h, obind_some]
  generalize steps p = l at hl
  rcases nil_or_concat l with rfl | ⟨m, z, rfl⟩
  · rfl
  · rw [wr_last (by omega)]
    have e1 : (((m ++ [z]).length : Int) == 0) = false := by simp <;> omega
    have e2 : decide ((0 : Int) < ((m ++ [z]).length : Int)) = true := by simp <;> omega
    have e3 : decide ((0 : Int) ≤ 0) = true := rfl
    rw [e1, e2, e3, pos_nat, lt_last, List.getLast?_concat]
    cases m with
    | nil => rfl
    | cons x m => simp

theorem s_ends {p : den tPath} (h : tot tPath p ≤ 34359738368) : s_Endpoints p = some (ends p) := by
  unfold s_Endpoints ends
  have hl := steps_len p
  rw [s_steps h, obind_some]
  generalize steps p = l at hl
  rcases nil_or_concat l with rfl | ⟨m, z, rfl⟩
  · rfl
  · rw [wr_last (by omega)]
    have e1 : (((m ++ [z]).length : Int) == 0) = false := by simp <;> omega
    have e2 : decide ((0 : Int) < ((m ++ [z]).length : Int)) = true := by simp <;> omega
    have e3 : decide ((0 : Int) ≤ 0) = true := rfl
    rw [e1, e2, e3, pos_nat, lt_last, List.getLast?_concat]
    cases m with
    | nil => rfl
    | cons x m => simp

/-- A packet as it is handed back: its slices last. -/
def pkR (p : den tPacket) : Int × Int × Int × Int × Int × Int × Int × Int × (List (den tPathPart)) × (List Int) := (p.1, p.2.1, p.2.2.1, p.2.2.2.2.1, p.2.2.2.2.2.1, p.2.2.2.2.2.2.1, p.2.2.2.2.2.2.2.1, p.2.2.2.2.2.2.2.2.1, p.2.2.2.1, p.2.2.2.2.2.2.2.2.2)

def beta0 (p : den tPath) : Int := match p with
  | [] => 0
  | x :: _ => x.2.2.1

def newPk (kind : Int) (p : den tPath) (res seq : Int) (pay : List Int) : den tPacket := (kind, (ends p).1, (ends p).2, p, 0, 0, beta0 p, res, seq, pay)

theorem i_newPk {kind res seq : Int} {p : den tPath} {pay : List Int} (h : tot tPath p ≤ 34359738368) (hp : pay.length ≤ 68719476736) : i_NewPacket kind p res seq pay = some (pkR (newPk kind p res seq pay)) := by
  unfold i_NewPacket
  rw [i_copyP ((sm_of_tot h).mono (by decide)), i_copyB hp, i_ends h]
  simp only [obind_some]
  cases p with
  | nil => rfl
  | cons x p =>
    have e1 : decide (((x :: p).length : Int) > 0) = true := by simp
    rw [e1]; rfl

theorem s_newPk {kind res seq : Int} {p : den tPath} {pay : List Int} (h : tot tPath p ≤ 34359738368) (hp : pay.length ≤ 68719476736) : s_NewPacket kind p res seq pay = some (pkR (newPk kind p res seq pay)) := by
  unfold s_NewPacket
  rw [s_copyP ((sm_of_tot h).mono (by decide)), s_ends h, apOk_le (b := 1) (n := ([] : List Int).length) (by decide) (by simpa using hp)]
  simp only [obind_some, cond_true, List.nil_append]
  cases p with
  | nil => rfl
  | cons x p =>
    have e1 : decide (((x :: p).length : Int) > 0) = true := by simp
    rw [e1]; rfl

def pk0 : den tPacket := (0, 0, 0, [], 0, 0, 0, 0, 0, [])

/-- A packet and whether there is one, as they are handed back. -/
def pkB (p : den tPacket) (b : Bool) : Int × Int × Int × Int × Int × Int × Int × Int × Bool × (List (den tPathPart)) × (List Int) := (p.1, p.2.1, p.2.2.1, p.2.2.2.2.1, p.2.2.2.2.2.1, p.2.2.2.2.2.2.1, p.2.2.2.2.2.2.2.1, p.2.2.2.2.2.2.2.2.1, b, p.2.2.2.1, p.2.2.2.2.2.2.2.2.2)

def sends (f : den tFlow) : Bool := inR f.2.2.2.2.2.2.1 0 ((f.2.2.2.2.2.1.length : Int) - 1) && inR f.2.2.2.1 0 ((f.2.2.2.2.1.length : Int) - 1)

def nextT (f : den tFlow) : den tPacket :=
  if sends f then newPk 1 ((f.2.2.2.2.2.1[f.2.2.2.2.2.2.1.toNat]?).getD []) f.2.2.1 f.2.2.2.1 ((f.2.2.2.2.1[f.2.2.2.1.toNat]?).getD []) else pk0

theorem getD_tot {t : Ty} {l : List (den t)} {d : den t} {i : Nat} (hd : tot t d = 0) : tot t ((l[i]?).getD d) ≤ tot (.sl t) l := by
  cases h : l[i]? with
  | none => simp [hd]
  | some x => have := tot_get h; simp; omega

theorem i_nextT {f : den tFlow} (h : tot tFlow f ≤ 34359738368) : i_NextTransmission f = some (pkB (nextT f) (sends f)) := by
  have h0 := tot_r (tot_r (tot_r (tot_r h)))
  have hm := tot_l h0
  have hp := tot_l (tot_r h0)
  have l1 := tot_len f.2.2.2.2.1
  have l2 := tot_len f.2.2.2.2.2.1
  unfold i_NextTransmission nextT sends
  simp only [i_in, wr_len (n := f.2.2.2.2.2.1.length) (by omega), wr_len (n := f.2.2.2.2.1.length) (by omega), obind_some]
  cases c1 : inR f.2.2.2.2.2.2.1 0 ((f.2.2.2.2.2.1.length : Int) - 1) with
  | false => rfl
  | true =>
    cases c2 : inR f.2.2.2.1 0 ((f.2.2.2.2.1.length : Int) - 1) with
    | false => rfl
    | true =>
      rw [inR_iff] at c1 c2
      rw [idx_lt c1.1 (by omega), idx_lt c2.1 (by omega)]
      have e1 : f.2.2.2.2.2.1[f.2.2.2.2.2.2.1.toNat]? = some (f.2.2.2.2.2.1[f.2.2.2.2.2.2.1.toNat]'(by omega)) := List.getElem?_eq_getElem (by omega)
      have e2 : f.2.2.2.2.1[f.2.2.2.1.toNat]? = some (f.2.2.2.2.1[f.2.2.2.1.toNat]'(by omega)) := List.getElem?_eq_getElem (by omega)
      have t1 := tot_get e1
      have t2 := tot_get e2
      have t3 := tot_len (t := tb) (f.2.2.2.2.1[f.2.2.2.1.toNat]'(by omega))
      simp only [obind_some, Bool.not_true, cond_false]
      rw [i_newPk (by omega) (by have t2 : 1 + tot (.sl tb) _ ≤ _ := t2; omega), e1, e2]
      rfl

theorem s_nextT {f : den tFlow} (h : tot tFlow f ≤ 34359738368) : s_NextTransmission f = some (pkB (nextT f) (sends f)) := by
  have h0 := tot_r (tot_r (tot_r (tot_r h)))
  have hm := tot_l h0
  have hp := tot_l (tot_r h0)
  have l1 := tot_len f.2.2.2.2.1
  have l2 := tot_len f.2.2.2.2.2.1
  unfold s_NextTransmission nextT sends
  simp only [s_in, wr_len (n := f.2.2.2.2.2.1.length) (by omega), wr_len (n := f.2.2.2.2.1.length) (by omega), obind_some]
  cases c1 : inR f.2.2.2.2.2.2.1 0 ((f.2.2.2.2.2.1.length : Int) - 1) with
  | false => cases inR f.2.2.2.1 0 ((f.2.2.2.2.1.length : Int) - 1) <;> rfl
  | true =>
    cases c2 : inR f.2.2.2.1 0 ((f.2.2.2.2.1.length : Int) - 1) with
    | false => rfl
    | true =>
      rw [inR_iff] at c1 c2
      rw [idx_lt c1.1 (by omega), idx_lt c2.1 (by omega)]
      have e1 : f.2.2.2.2.2.1[f.2.2.2.2.2.2.1.toNat]? = some (f.2.2.2.2.2.1[f.2.2.2.2.2.2.1.toNat]'(by omega)) := List.getElem?_eq_getElem (by omega)
      have e2 : f.2.2.2.2.1[f.2.2.2.1.toNat]? = some (f.2.2.2.2.1[f.2.2.2.1.toNat]'(by omega)) := List.getElem?_eq_getElem (by omega)
      have t1 := tot_get e1
      have t2 := tot_get e2
      have t3 := tot_len (t := tb) (f.2.2.2.2.1[f.2.2.2.1.toNat]'(by omega))
      simp only [obind_some, Bool.not_true, cond_false]
      rw [s_newPk (by omega) (by have t2 : 1 + tot (.sl tb) _ ≤ _ := t2; omega), e1, e2]
      rfl

def nextP (f : den tFlow) : Int := if wr (f.2.2.2.2.2.2.1 + 1) ≥ (f.2.2.2.2.2.1.length : Int) then 0 else wr (f.2.2.2.2.2.2.1 + 1)

def setCW (f : den tFlow) (c w : Int) : den tFlow := (f.1, f.2.1, f.2.2.1, f.2.2.2.1, f.2.2.2.2.1, f.2.2.2.2.2.1, c, w, f.2.2.2.2.2.2.2.2)

theorem setCW_tot (f : den tFlow) (c w : Int) : tot tFlow (setCW f c w) = tot tFlow f := rfl

/-- A tick: the flow, what is sent, and whether it is. -/
def tickF (f : den tFlow) : den tFlow × den tPacket × Bool :=
  if sends f then
    if f.2.2.2.2.2.2.2.1 == 0 then (setCW f f.2.2.2.2.2.2.1 1, nextT f, true)
    else if f.2.2.2.2.2.2.2.1 == 4 then (setCW f (nextP f) 1, nextT (setCW f (nextP f) 1), sends (setCW f (nextP f) 1))
    else (setCW f f.2.2.2.2.2.2.1 (wr (f.2.2.2.2.2.2.2.1 + 1)), pk0, false)
  else (setCW f f.2.2.2.2.2.2.1 0, pk0, false)

/-- A flow, a packet and whether there is one, as they are handed back. -/
def tickR (f : den tFlow) (p : den tPacket) (b : Bool) : Int × Int × Int × Int × Int × Int × Int × Int × Int × Int × Int × Int × Int × Int × Bool × (List (den tMessage)) × (List (den tPath)) × (List (den tRevocation)) × (List (den tPathPart)) × (List Int) :=
  (f.1, f.2.1, f.2.2.1, f.2.2.2.1, f.2.2.2.2.2.2.1, f.2.2.2.2.2.2.2.1, p.1, p.2.1, p.2.2.1, p.2.2.2.2.1, p.2.2.2.2.2.1, p.2.2.2.2.2.2.1, p.2.2.2.2.2.2.2.1, p.2.2.2.2.2.2.2.2.1, b, f.2.2.2.2.1, f.2.2.2.2.2.1, f.2.2.2.2.2.2.2.2, p.2.2.2.1, p.2.2.2.2.2.2.2.2.2)

theorem i_nextP (f : den tFlow) : i_nextPath f = some (nextP f) := by
  unfold i_nextPath nextP
  by_cases h : wr (f.2.2.2.2.2.2.1 + 1) ≥ (f.2.2.2.2.2.1.length : Int)
  · rw [decide_eq_true h, if_pos h]; rfl
  · rw [decide_eq_false h, if_neg h]; rfl

theorem i_tickF {f : den tFlow} (h : tot tFlow f ≤ 34359738368) : i_TickFlow f = some (tickR (tickF f).1 (tickF f).2.1 (tickF f).2.2) := by
  unfold i_TickFlow tickF
  have e : i_NextTransmission (f.1, f.2.1, f.2.2.1, f.2.2.2.1, f.2.2.2.2.1, f.2.2.2.2.2.1, nextP f, 1, f.2.2.2.2.2.2.2.2) = some (pkB (nextT (setCW f (nextP f) 1)) (sends (setCW f (nextP f) 1))) := i_nextT (f := setCW f (nextP f) 1) h
  simp only [peta, i_copyF ((sm_of_tot h).mono (by decide)), i_nextT h, i_nextP, obind_some, both_self, flowR, e]
  cases c1 : sends f with
  | false => simp only [pkB, Bool.not_false, cond_true]; rfl
  | true =>
    simp only [pkB, Bool.not_true, cond_false, if_true]
    cases c2 : f.2.2.2.2.2.2.2.1 == 0 with
    | true => rfl
    | false =>
      cases c3 : f.2.2.2.2.2.2.2.1 == 4 with
      | true => rfl
      | false => rfl

theorem turn_key {c : Int} {n : Nat} (h0 : 0 ≤ c) (h1 : c ≤ (n : Int) - 1) (hn : n ≤ 68719476736) : inR c 0 (wr ((n : Int) - 2)) = !decide (wr (c + 1) ≥ (n : Int)) := by
  have e1 : wr ((n : Int) - 2) = (n : Int) - 2 := wrap_in (by omega) (by omega)
  have e2 : wr (c + 1) = c + 1 := wrap_in (by omega) (by omega)
  rw [e1, e2, Bool.eq_iff_iff, inR_iff]
  simp
  omega

theorem s_turn {f : den tFlow} (h : SmB 68719476736 tFlow f) (hs : inR f.2.2.2.2.2.2.1 0 ((f.2.2.2.2.2.1.length : Int) - 1) = true) : s_l35Turn f = some (flowR (setCW f (nextP f) f.2.2.2.2.2.2.2.1)) := by
  unfold s_l35Turn nextP
  have hl := h.2.2.2.2.2.1.1
  rw [inR_iff] at hs
  simp only [peta, s_copyF h, s_in, turn_key hs.1 hs.2 hl, obind_some, flowR]
  by_cases hc : wr (f.2.2.2.2.2.2.1 + 1) ≥ (f.2.2.2.2.2.1.length : Int)
  · rw [decide_eq_true hc, if_pos hc]; rfl
  · rw [decide_eq_false hc, if_neg hc]; rfl

theorem s_tickF {f : den tFlow} (h : tot tFlow f ≤ 34359738368) : s_TickFlow f = some (tickR (tickF f).1 (tickF f).2.1 (tickF f).2.2) := by
  unfold s_TickFlow tickF
  have sm : SmB 68719476736 tFlow f := (sm_of_tot h).mono (by decide)
  have e : s_NextTransmission (f.1, f.2.1, f.2.2.1, f.2.2.2.1, f.2.2.2.2.1, f.2.2.2.2.2.1, nextP f, 1, f.2.2.2.2.2.2.2.2) = some (pkB (nextT (setCW f (nextP f) 1)) (sends (setCW f (nextP f) 1))) := s_nextT (f := setCW f (nextP f) 1) h
  simp only [peta, s_copyF sm, s_nextT h, obind_some, both_self]
  cases c1 : sends f with
  | false => simp only [pkB, flowR, Bool.not_false, cond_true]; rfl
  | true =>
    have hs : inR f.2.2.2.2.2.2.1 0 ((f.2.2.2.2.2.1.length : Int) - 1) = true := by
      unfold sends at c1; simp only [Bool.and_eq_true] at c1; exact c1.1
    rw [s_turn sm hs]
    simp only [pkB, flowR, setCW, obind_some, Bool.not_true, cond_false, if_true, e]
    cases c2 : f.2.2.2.2.2.2.2.1 == 0 with
    | true => rfl
    | false =>
      cases c3 : f.2.2.2.2.2.2.2.1 == 4 with
      | true => rfl
      | false => rfl

theorem newPk_tot {kind res seq : Int} {p : den tPath} {pay : List Int} : tot tPacket (newPk kind p res seq pay) = tot tPath p + tot (.sl tb) pay := by
  show 0 + (0 + (0 + (tot tPath p + (0 + (0 + (0 + (0 + (0 + tot (.sl tb) pay)))))))) = _
  omega

theorem nextT_tot (f : den tFlow) : tot tPacket (nextT f) ≤ tot tFlow f := by
  unfold nextT
  split
  · rw [newPk_tot]
    have h1 := getD_tot (t := tPath) (l := f.2.2.2.2.2.1) (d := []) (i := f.2.2.2.2.2.2.1.toNat) rfl
    have h2 := getD_tot (t := .sl tb) (l := f.2.2.2.2.1) (d := []) (i := f.2.2.2.1.toNat) rfl
    show _ ≤ 0 + (0 + (0 + (0 + (tot (.sl (.sl tb)) f.2.2.2.2.1 + (tot (.sl tPath) f.2.2.2.2.2.1 + (0 + (0 + tot (.sl tRevocation) f.2.2.2.2.2.2.2.2)))))))
    omega
  · exact Nat.zero_le _

theorem pk_path {p : den tPacket} {N : Nat} (h : tot tPacket p ≤ N) : tot (.sl tPathPart) p.2.2.2.1 ≤ N ∧ tot (.sl tb) p.2.2.2.2.2.2.2.2.2 ≤ N :=
  ⟨tot_l (tot_r (tot_r (tot_r h))), tot_r (tot_r (tot_r (tot_r (tot_r (tot_r (tot_r (tot_r (tot_r h))))))))⟩

theorem tickF_tot (f : den tFlow) : tot tFlow (tickF f).1 = tot tFlow f ∧ tot tPacket (tickF f).2.1 ≤ tot tFlow f := by
  unfold tickF
  split
  · split
    · exact ⟨setCW_tot f _ _, nextT_tot f⟩
    · split
      · exact ⟨setCW_tot f _ _, nextT_tot (setCW f (nextP f) 1)⟩
      · exact ⟨setCW_tot f _ _, Nat.zero_le _⟩
  · exact ⟨setCW_tot f _ _, Nat.zero_le _⟩

theorem flow_parts {f : den tFlow} {N : Nat} (h : tot tFlow f ≤ N) : tot (.sl tMessage) f.2.2.2.2.1 ≤ N ∧ tot (.sl tPath) f.2.2.2.2.2.1 ≤ N ∧ tot (.sl tRevocation) f.2.2.2.2.2.2.2.2 ≤ N := by
  have h0 := tot_r (tot_r (tot_r (tot_r h)))
  exact ⟨tot_l h0, tot_l (tot_r h0), tot_r (tot_r (tot_r (tot_r h0)))⟩

end Go.Proofs.Ytmodgmbmbainmaa
