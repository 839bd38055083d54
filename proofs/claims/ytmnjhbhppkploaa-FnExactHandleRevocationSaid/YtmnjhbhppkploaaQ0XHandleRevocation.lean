/-
  Facts and plain laws: what the functions compute, in plain words. Conditions: as each says.
-/
import Derived.Test.YtmnjhbhppkploaaT0XHandleRevocation
set_option linter.unusedVariables false
set_option linter.unusedSimpArgs false
set_option maxRecDepth 100000
namespace Go.Proofs.Ytmnjhbhppkploaa
open Go.Ab Go.V
theorem sz_ByteS {l : den (.sl tb)} {left : Int} (w : Wf (.sl tb) l) (h0 : 0 ≤ left) (h1 : left ≤ 1048576) : SzT (l_szByteS l left) left (tot (.sl tb) l) := szF_ok (t := tb) rfl w.1 h0 h1

theorem sz_Message {x : den tMessage} {left : Int} (w : Wf tMessage x) (h0 : 0 ≤ left) (h1 : left ≤ 1048576) : SzT (l_szMessage x left) left (tot tMessage x) := SzT.eq (sz_field (sz_ByteS w h0 h1) h1 fun r0 a0 b0 => sz_done a0) (by simp [tot, tot_flat])

theorem sz_MessageS {l : den (.sl tMessage)} {left : Int} (w : Wf (.sl tMessage) l) (h0 : 0 ≤ left) (h1 : left ≤ 1048576) : SzT (l_szMessageS l left) left (tot (.sl tMessage) l) := szL_ok (t := tMessage) (szE := l_szMessage) w.1 h0 h1 fun x hx k k0 k1 => sz_Message (w.2 x hx) k0 k1

theorem sz_HopS {l : den (.sl tHop)} {left : Int} (w : Wf (.sl tHop) l) (h0 : 0 ≤ left) (h1 : left ≤ 1048576) : SzT (l_szHopS l left) left (tot (.sl tHop) l) := szF_ok (t := tHop) rfl w.1 h0 h1

theorem sz_PathPart {x : den tPathPart} {left : Int} (w : Wf tPathPart x) (h0 : 0 ≤ left) (h1 : left ≤ 1048576) : SzT (l_szPathPart x left) left (tot tPathPart x) := SzT.eq (sz_field (sz_HopS w.2.2.2 h0 h1) h1 fun r0 a0 b0 => sz_done a0) (by simp [tot, tot_flat])

theorem sz_PathPartS {l : den (.sl tPathPart)} {left : Int} (w : Wf (.sl tPathPart) l) (h0 : 0 ≤ left) (h1 : left ≤ 1048576) : SzT (l_szPathPartS l left) left (tot (.sl tPathPart) l) := szL_ok (t := tPathPart) (szE := l_szPathPart) w.1 h0 h1 fun x hx k k0 k1 => sz_PathPart (w.2 x hx) k0 k1

theorem sz_Path {x : den tPath} {left : Int} (w : Wf tPath x) (h0 : 0 ≤ left) (h1 : left ≤ 1048576) : SzT (l_szPath x left) left (tot tPath x) := SzT.eq (sz_field (sz_PathPartS w h0 h1) h1 fun r0 a0 b0 => sz_done a0) (by simp [tot, tot_flat])

theorem sz_PathS {l : den (.sl tPath)} {left : Int} (w : Wf (.sl tPath) l) (h0 : 0 ≤ left) (h1 : left ≤ 1048576) : SzT (l_szPathS l left) left (tot (.sl tPath) l) := szL_ok (t := tPath) (szE := l_szPath) w.1 h0 h1 fun x hx k k0 k1 => sz_Path (w.2 x hx) k0 k1

theorem sz_RevocationS {l : den (.sl tRevocation)} {left : Int} (w : Wf (.sl tRevocation) l) (h0 : 0 ≤ left) (h1 : left ≤ 1048576) : SzT (l_szRevocationS l left) left (tot (.sl tRevocation) l) := szF_ok (t := tRevocation) rfl w.1 h0 h1

theorem sz_Flow {x : den tFlow} {left : Int} (w : Wf tFlow x) (h0 : 0 ≤ left) (h1 : left ≤ 1048576) : SzT (l_szFlow x left) left (tot tFlow x) := SzT.eq (sz_field (sz_MessageS w.2.2.2.2.1 h0 h1) h1 fun r0 a0 b0 => sz_field (sz_PathS w.2.2.2.2.2.1 a0 b0) b0 fun r1 a1 b1 => sz_field (sz_RevocationS w.2.2.2.2.2.2.2.2 a1 b1) b1 fun r2 a2 b2 => sz_done a2) (by simp [tot, tot_flat] <;> omega)

theorem sz_Packet {x : den tPacket} {left : Int} (w : Wf tPacket x) (h0 : 0 ≤ left) (h1 : left ≤ 1048576) : SzT (l_szPacket x left) left (tot tPacket x) := SzT.eq (sz_field (sz_Path w.2.2.2.1 h0 h1) h1 fun r0 a0 b0 => sz_field (sz_ByteS w.2.2.2.2.2.2.2.2.2 a0 b0) b0 fun r1 a1 b1 => sz_done a1) (by simp [tot, tot_flat] <;> omega)

theorem to_ByteS {l : den (.sl tb)} (h : Sm (.sl tb) l) : l_toByteS l = some l := by
  have : l_toByteS l = some (l.map id) := toL_eq (toE := some) (g := id) h.1 (by decide) fun x hx => rfl
  simpa using this

theorem to_Message {x : den tMessage} (h : Sm tMessage x) : l_toMessage x = some x := by
  unfold l_toMessage
  simp [to_ByteS h]

theorem to_MessageS {l : den (.sl tMessage)} (h : Sm (.sl tMessage) l) : l_toMessageS l = some l := by
  have : l_toMessageS l = some (l.map id) := toL_eq (toE := l_toMessage) (g := id) h.1 (by decide) fun x hx => to_Message (h.2 x hx)
  simpa using this

theorem to_Hop {x : den tHop} (h : Sm tHop x) : l_toHop x = some x := by
  unfold l_toHop
  rfl

theorem to_HopS {l : den (.sl tHop)} (h : Sm (.sl tHop) l) : l_toHopS l = some l := by
  have : l_toHopS l = some (l.map id) := toL_eq (toE := l_toHop) (g := id) h.1 (by decide) fun x hx => to_Hop (h.2 x hx)
  simpa using this

theorem to_PathPart {x : den tPathPart} (h : Sm tPathPart x) : l_toPathPart x = some x := by
  unfold l_toPathPart
  simp [to_HopS h.2.2.2]

theorem to_PathPartS {l : den (.sl tPathPart)} (h : Sm (.sl tPathPart) l) : l_toPathPartS l = some l := by
  have : l_toPathPartS l = some (l.map id) := toL_eq (toE := l_toPathPart) (g := id) h.1 (by decide) fun x hx => to_PathPart (h.2 x hx)
  simpa using this

theorem to_Path {x : den tPath} (h : Sm tPath x) : l_toPath x = some x := by
  unfold l_toPath
  simp [to_PathPartS h]

theorem to_PathS {l : den (.sl tPath)} (h : Sm (.sl tPath) l) : l_toPathS l = some l := by
  have : l_toPathS l = some (l.map id) := toL_eq (toE := l_toPath) (g := id) h.1 (by decide) fun x hx => to_Path (h.2 x hx)
  simpa using this

theorem to_Revocation {x : den tRevocation} (h : Sm tRevocation x) : l_toRevocation x = some x := by
  unfold l_toRevocation
  rfl

theorem to_RevocationS {l : den (.sl tRevocation)} (h : Sm (.sl tRevocation) l) : l_toRevocationS l = some l := by
  have : l_toRevocationS l = some (l.map id) := toL_eq (toE := l_toRevocation) (g := id) h.1 (by decide) fun x hx => to_Revocation (h.2 x hx)
  simpa using this

theorem to_Flow {x : den tFlow} (h : Sm tFlow x) : l_toFlow x = some (x.1, x.2.1, x.2.2.1, x.2.2.2.1, x.2.2.2.2.2.2.1, x.2.2.2.2.2.2.2.1, x.2.2.2.2.1, x.2.2.2.2.2.1, x.2.2.2.2.2.2.2.2) := by
  unfold l_toFlow
  simp only [to_MessageS h.2.2.2.2.1, to_PathS h.2.2.2.2.2.1, to_RevocationS h.2.2.2.2.2.2.2.2, obind_some, peta]

theorem to_Packet {x : den tPacket} (h : Sm tPacket x) : l_toPacket x = some (x.1, x.2.1, x.2.2.1, x.2.2.2.2.1, x.2.2.2.2.2.1, x.2.2.2.2.2.2.1, x.2.2.2.2.2.2.2.1, x.2.2.2.2.2.2.2.2.1, x.2.2.2.1, x.2.2.2.2.2.2.2.2.2) := by
  unfold l_toPacket
  simp only [to_Path h.2.2.2.1, to_ByteS h.2.2.2.2.2.2.2.2.2, obind_some, peta]

theorem eq_ByteS {l : den (.sl tb)} (h : SmB 4611686018427387904 (.sl tb) l) : l_eqByteS l l = some true := eqL_refl (eqE := (fun x y => some (x == y))) h.1 fun x hx => by simp

theorem eq_Message {x : den tMessage} (h : SmB 4611686018427387904 tMessage x) : l_eqMessage x x = some true := by
  unfold l_eqMessage
  simp [eq_ByteS h]

theorem eq_MessageS {l : den (.sl tMessage)} (h : SmB 4611686018427387904 (.sl tMessage) l) : l_eqMessageS l l = some true := eqL_refl (eqE := l_eqMessage) h.1 fun x hx => eq_Message (h.2 x hx)

theorem eq_Hop {x : den tHop} (h : SmB 4611686018427387904 tHop x) : l_eqHop x x = some true := by
  unfold l_eqHop
  simp

theorem eq_HopS {l : den (.sl tHop)} (h : SmB 4611686018427387904 (.sl tHop) l) : l_eqHopS l l = some true := eqL_refl (eqE := l_eqHop) h.1 fun x hx => eq_Hop (h.2 x hx)

theorem eq_PathPart {x : den tPathPart} (h : SmB 4611686018427387904 tPathPart x) : l_eqPathPart x x = some true := by
  unfold l_eqPathPart
  simp [eq_HopS h.2.2.2]

theorem eq_PathPartS {l : den (.sl tPathPart)} (h : SmB 4611686018427387904 (.sl tPathPart) l) : l_eqPathPartS l l = some true := eqL_refl (eqE := l_eqPathPart) h.1 fun x hx => eq_PathPart (h.2 x hx)

theorem eq_Path {x : den tPath} (h : SmB 4611686018427387904 tPath x) : l_eqPath x x = some true := by
  unfold l_eqPath
  simp [eq_PathPartS h]

theorem eq_PathS {l : den (.sl tPath)} (h : SmB 4611686018427387904 (.sl tPath) l) : l_eqPathS l l = some true := eqL_refl (eqE := l_eqPath) h.1 fun x hx => eq_Path (h.2 x hx)

theorem eq_Revocation {x : den tRevocation} (h : SmB 4611686018427387904 tRevocation x) : l_eqRevocation x x = some true := by
  unfold l_eqRevocation
  simp

theorem eq_RevocationS {l : den (.sl tRevocation)} (h : SmB 4611686018427387904 (.sl tRevocation) l) : l_eqRevocationS l l = some true := eqL_refl (eqE := l_eqRevocation) h.1 fun x hx => eq_Revocation (h.2 x hx)

theorem eq_Flow {x : den tFlow} (h : SmB 4611686018427387904 tFlow x) : l_eqFlow x x = some true := by
  unfold l_eqFlow
  simp [eq_MessageS h.2.2.2.2.1, eq_PathS h.2.2.2.2.2.1, eq_RevocationS h.2.2.2.2.2.2.2.2]

theorem eq_Packet {x : den tPacket} (h : SmB 4611686018427387904 tPacket x) : l_eqPacket x x = some true := by
  unfold l_eqPacket
  simp [eq_Path h.2.2.2.1, eq_ByteS h.2.2.2.2.2.2.2.2.2]

theorem mark_ByteS {l : den (.sl tb)} {k : Int} (h : SmB 4611686018427387904 (.sl tb) l) (hk : 0 ≤ k) (hb : k + ((lv (.sl tb) l : Nat) : Int) ≤ 4611686018427387904) : l_markByteS l k = some (k + ((lv (.sl tb) l : Nat) : Int), mkT (.sl tb) l k) := by
  have hc := cntAll_sum (lv tb) l
  have hc : k + ((cntAll (lv tb) l : Nat) : Int) = k + ((lv (.sl tb) l : Nat) : Int) := by rw [hc]; rfl
  unfold l_markByteS
  rw [mark0 (cE := lv tb) (mE := mkT tb) (SmB 4611686018427387904 tb) (fun k i L x hx hi hN hk hb hp => by
      have hd : decide ((i : Int) < (L.length : Int)) = true := by simpa using hi
      have hd0 : decide ((0 : Int) ≤ (i : Int)) = true := by simp
      have hw : IntKind.i64.wrap ((i : Int) + 1) = ((i + 1 : Nat) : Int) := by rw [wrap_in (by omega) (by omega)]; omega
      have hl : k + ((lv tb x : Nat) : Int) = k + 1 := by simp only [lv] <;> omega
      rw [hl] at hb
      rw [hl]
      have hE : mkT tb x k = IntKind.u8.wrap (k) := by first | rfl | (simp [mkT, lv]; try omega)
      have f0 : IntKind.i64.wrap (k + 1) = k + 1 := wrap_in (by omega) (by omega)
      rw [hE]
      simp only [hd, hd0, hw, cond_true, Int.toNat_natCast, hx, obind_some, List.length_set, List.getElem?_set_self hi, List.set_set, f0]) (fun k L => by simp) h.1 h.2 hk (by rw [hc]; exact hb), hc]
  rfl

theorem mark_MessageS {l : den (.sl tMessage)} {k : Int} (h : SmB 4611686018427387904 (.sl tMessage) l) (hk : 0 ≤ k) (hb : k + ((lv (.sl tMessage) l : Nat) : Int) ≤ 4611686018427387904) : l_markMessageS l k = some (k + ((lv (.sl tMessage) l : Nat) : Int), mkT (.sl tMessage) l k) := by
  have hc := cntAll_sum (lv tMessage) l
  have hc : k + ((cntAll (lv tMessage) l : Nat) : Int) = k + ((lv (.sl tMessage) l : Nat) : Int) := by rw [hc]; rfl
  unfold l_markMessageS
  rw [mark0 (cE := lv tMessage) (mE := mkT tMessage) (SmB 4611686018427387904 tMessage) (fun k i L x hx hi hN hk hb hp => by
      have hd : decide ((i : Int) < (L.length : Int)) = true := by simpa using hi
      have hd0 : decide ((0 : Int) ≤ (i : Int)) = true := by simp
      have hw : IntKind.i64.wrap ((i : Int) + 1) = ((i + 1 : Nat) : Int) := by rw [wrap_in (by omega) (by omega)]; omega
      have hl : k + ((lv tMessage x : Nat) : Int) = k + ((lv (.sl tb) x : Nat) : Int) := by simp only [lv] <;> omega
      rw [hl] at hb
      rw [hl]
      have hE : mkT tMessage x k = mkT (.sl tb) x (k) := by first | rfl | (simp [mkT, lv]; try omega)
      have f0 := mark_ByteS (l := x) (k := k) hp (by omega) (by omega)
      rw [hE]
      simp only [hd, hd0, hw, cond_true, Int.toNat_natCast, hx, obind_some, List.length_set, List.getElem?_set_self hi, List.set_set, f0]) (fun k L => by simp) h.1 h.2 hk (by rw [hc]; exact hb), hc]
  rfl

theorem mark_HopS {l : den (.sl tHop)} {k : Int} (h : SmB 4611686018427387904 (.sl tHop) l) (hk : 0 ≤ k) (hb : k + ((lv (.sl tHop) l : Nat) : Int) ≤ 4611686018427387904) : l_markHopS l k = some (k + ((lv (.sl tHop) l : Nat) : Int), mkT (.sl tHop) l k) := by
  have hc := cntAll_sum (lv tHop) l
  have hc : k + ((cntAll (lv tHop) l : Nat) : Int) = k + ((lv (.sl tHop) l : Nat) : Int) := by rw [hc]; rfl
  unfold l_markHopS
  rw [mark0 (cE := lv tHop) (mE := mkT tHop) (SmB 4611686018427387904 tHop) (fun k i L x hx hi hN hk hb hp => by
      have hd : decide ((i : Int) < (L.length : Int)) = true := by simpa using hi
      have hd0 : decide ((0 : Int) ≤ (i : Int)) = true := by simp
      have hw : IntKind.i64.wrap ((i : Int) + 1) = ((i + 1 : Nat) : Int) := by rw [wrap_in (by omega) (by omega)]; omega
      have hl : k + ((lv tHop x : Nat) : Int) = k + 1 + 1 + 1 + 1 + 1 := by simp only [lv] <;> omega
      rw [hl] at hb
      rw [hl]
      have hE : mkT tHop x k = (k, k + 1, k + 1 + 1, k + 1 + 1 + 1, k + 1 + 1 + 1 + 1) := by first | rfl | (simp [mkT, lv]; try omega)
      have f0 : IntKind.i64.wrap (k + 1) = k + 1 := wrap_in (by omega) (by omega)
      have f1 : IntKind.i64.wrap (k + 1 + 1) = k + 1 + 1 := wrap_in (by omega) (by omega)
      have f2 : IntKind.i64.wrap (k + 1 + 1 + 1) = k + 1 + 1 + 1 := wrap_in (by omega) (by omega)
      have f3 : IntKind.i64.wrap (k + 1 + 1 + 1 + 1) = k + 1 + 1 + 1 + 1 := wrap_in (by omega) (by omega)
      have f4 : IntKind.i64.wrap (k + 1 + 1 + 1 + 1 + 1) = k + 1 + 1 + 1 + 1 + 1 := wrap_in (by omega) (by omega)
      rw [hE]
      simp only [hd, hd0, hw, cond_true, Int.toNat_natCast, hx, obind_some, List.length_set, List.getElem?_set_self hi, List.set_set, f0, f1, f2, f3, f4]) (fun k L => by simp) h.1 h.2 hk (by rw [hc]; exact hb), hc]
  rfl

theorem mark_PathPartS {l : den (.sl tPathPart)} {k : Int} (h : SmB 4611686018427387904 (.sl tPathPart) l) (hk : 0 ≤ k) (hb : k + ((lv (.sl tPathPart) l : Nat) : Int) ≤ 4611686018427387904) : l_markPathPartS l k = some (k + ((lv (.sl tPathPart) l : Nat) : Int), mkT (.sl tPathPart) l k) := by
  have hc := cntAll_sum (lv tPathPart) l
  have hc : k + ((cntAll (lv tPathPart) l : Nat) : Int) = k + ((lv (.sl tPathPart) l : Nat) : Int) := by rw [hc]; rfl
  unfold l_markPathPartS
  rw [mark0 (cE := lv tPathPart) (mE := mkT tPathPart) (SmB 4611686018427387904 tPathPart) (fun k i L x hx hi hN hk hb hp => by
      have hd : decide ((i : Int) < (L.length : Int)) = true := by simpa using hi
      have hd0 : decide ((0 : Int) ≤ (i : Int)) = true := by simp
      have hw : IntKind.i64.wrap ((i : Int) + 1) = ((i + 1 : Nat) : Int) := by rw [wrap_in (by omega) (by omega)]; omega
      have hl : k + ((lv tPathPart x : Nat) : Int) = k + 1 + 1 + 1 + ((lv (.sl tHop) x.2.2.2 : Nat) : Int) := by simp only [lv] <;> omega
      rw [hl] at hb
      rw [hl]
      have hE : mkT tPathPart x k = (k, k + 1, k + 1 + 1, mkT (.sl tHop) x.2.2.2 (k + 1 + 1 + 1)) := by first | rfl | (simp [mkT, lv]; try omega)
      have f0 : IntKind.i64.wrap (k + 1) = k + 1 := wrap_in (by omega) (by omega)
      have f1 : IntKind.i64.wrap (k + 1 + 1) = k + 1 + 1 := wrap_in (by omega) (by omega)
      have f2 : IntKind.i64.wrap (k + 1 + 1 + 1) = k + 1 + 1 + 1 := wrap_in (by omega) (by omega)
      have f3 := mark_HopS (l := x.2.2.2) (k := k + 1 + 1 + 1) hp.2.2.2 (by omega) (by omega)
      rw [hE]
      simp only [hd, hd0, hw, cond_true, Int.toNat_natCast, hx, obind_some, List.length_set, List.getElem?_set_self hi, List.set_set, f0, f1, f2, f3]) (fun k L => by simp) h.1 h.2 hk (by rw [hc]; exact hb), hc]
  rfl

theorem mark_PathS {l : den (.sl tPath)} {k : Int} (h : SmB 4611686018427387904 (.sl tPath) l) (hk : 0 ≤ k) (hb : k + ((lv (.sl tPath) l : Nat) : Int) ≤ 4611686018427387904) : l_markPathS l k = some (k + ((lv (.sl tPath) l : Nat) : Int), mkT (.sl tPath) l k) := by
  have hc := cntAll_sum (lv tPath) l
  have hc : k + ((cntAll (lv tPath) l : Nat) : Int) = k + ((lv (.sl tPath) l : Nat) : Int) := by rw [hc]; rfl
  unfold l_markPathS
  rw [mark0 (cE := lv tPath) (mE := mkT tPath) (SmB 4611686018427387904 tPath) (fun k i L x hx hi hN hk hb hp => by
      have hd : decide ((i : Int) < (L.length : Int)) = true := by simpa using hi
      have hd0 : decide ((0 : Int) ≤ (i : Int)) = true := by simp
      have hw : IntKind.i64.wrap ((i : Int) + 1) = ((i + 1 : Nat) : Int) := by rw [wrap_in (by omega) (by omega)]; omega
      have hl : k + ((lv tPath x : Nat) : Int) = k + ((lv (.sl tPathPart) x : Nat) : Int) := by simp only [lv] <;> omega
      rw [hl] at hb
      rw [hl]
      have hE : mkT tPath x k = mkT (.sl tPathPart) x (k) := by first | rfl | (simp [mkT, lv]; try omega)
      have f0 := mark_PathPartS (l := x) (k := k) hp (by omega) (by omega)
      rw [hE]
      simp only [hd, hd0, hw, cond_true, Int.toNat_natCast, hx, obind_some, List.length_set, List.getElem?_set_self hi, List.set_set, f0]) (fun k L => by simp) h.1 h.2 hk (by rw [hc]; exact hb), hc]
  rfl

theorem mark_RevocationS {l : den (.sl tRevocation)} {k : Int} (h : SmB 4611686018427387904 (.sl tRevocation) l) (hk : 0 ≤ k) (hb : k + ((lv (.sl tRevocation) l : Nat) : Int) ≤ 4611686018427387904) : l_markRevocationS l k = some (k + ((lv (.sl tRevocation) l : Nat) : Int), mkT (.sl tRevocation) l k) := by
  have hc := cntAll_sum (lv tRevocation) l
  have hc : k + ((cntAll (lv tRevocation) l : Nat) : Int) = k + ((lv (.sl tRevocation) l : Nat) : Int) := by rw [hc]; rfl
  unfold l_markRevocationS
  rw [mark0 (cE := lv tRevocation) (mE := mkT tRevocation) (SmB 4611686018427387904 tRevocation) (fun k i L x hx hi hN hk hb hp => by
      have hd : decide ((i : Int) < (L.length : Int)) = true := by simpa using hi
      have hd0 : decide ((0 : Int) ≤ (i : Int)) = true := by simp
      have hw : IntKind.i64.wrap ((i : Int) + 1) = ((i + 1 : Nat) : Int) := by rw [wrap_in (by omega) (by omega)]; omega
      have hl : k + ((lv tRevocation x : Nat) : Int) = k + 1 + 1 + 1 := by simp only [lv] <;> omega
      rw [hl] at hb
      rw [hl]
      have hE : mkT tRevocation x k = (k, k + 1, k + 1 + 1) := by first | rfl | (simp [mkT, lv]; try omega)
      have f0 : IntKind.i64.wrap (k + 1) = k + 1 := wrap_in (by omega) (by omega)
      have f1 : IntKind.i64.wrap (k + 1 + 1) = k + 1 + 1 := wrap_in (by omega) (by omega)
      have f2 : IntKind.i64.wrap (k + 1 + 1 + 1) = k + 1 + 1 + 1 := wrap_in (by omega) (by omega)
      rw [hE]
      simp only [hd, hd0, hw, cond_true, Int.toNat_natCast, hx, obind_some, List.length_set, List.getElem?_set_self hi, List.set_set, f0, f1, f2]) (fun k L => by simp) h.1 h.2 hk (by rw [hc]; exact hb), hc]
  rfl

theorem mark_Flow {x : den tFlow} {k : Int} (h : SmB 4611686018427387904 tFlow x) (hk : 0 ≤ k) (hb : k + ((lv (.sl tMessage) x.2.2.2.2.1 : Nat) : Int) + ((lv (.sl tPath) x.2.2.2.2.2.1 : Nat) : Int) + ((lv (.sl tRevocation) x.2.2.2.2.2.2.2.2 : Nat) : Int) ≤ 4611686018427387904) : l_markFlow x k = some (k + ((lv (.sl tMessage) x.2.2.2.2.1 : Nat) : Int) + ((lv (.sl tPath) x.2.2.2.2.2.1 : Nat) : Int) + ((lv (.sl tRevocation) x.2.2.2.2.2.2.2.2 : Nat) : Int), mkT (.sl tMessage) x.2.2.2.2.1 (k), mkT (.sl tPath) x.2.2.2.2.2.1 (k + ((lv (.sl tMessage) x.2.2.2.2.1 : Nat) : Int)), mkT (.sl tRevocation) x.2.2.2.2.2.2.2.2 (k + ((lv (.sl tMessage) x.2.2.2.2.1 : Nat) : Int) + ((lv (.sl tPath) x.2.2.2.2.2.1 : Nat) : Int))) := by
  have q0 := mark_MessageS (l := x.2.2.2.2.1) (k := k) h.2.2.2.2.1 (by omega) (by omega)
  have q1 := mark_PathS (l := x.2.2.2.2.2.1) (k := k + ((lv (.sl tMessage) x.2.2.2.2.1 : Nat) : Int)) h.2.2.2.2.2.1 (by omega) (by omega)
  have q2 := mark_RevocationS (l := x.2.2.2.2.2.2.2.2) (k := k + ((lv (.sl tMessage) x.2.2.2.2.1 : Nat) : Int) + ((lv (.sl tPath) x.2.2.2.2.2.1 : Nat) : Int)) h.2.2.2.2.2.2.2.2 (by omega) (by omega)
  unfold l_markFlow
  simp only [q0, q1, q2, obind_some, peta]

theorem mark_Path {x : den tPath} {k : Int} (h : SmB 4611686018427387904 tPath x) (hk : 0 ≤ k) (hb : k + ((lv (.sl tPathPart) x : Nat) : Int) ≤ 4611686018427387904) : l_markPath x k = some (k + ((lv (.sl tPathPart) x : Nat) : Int), mkT (.sl tPathPart) x (k)) := by
  have q0 := mark_PathPartS (l := x) (k := k) h (by omega) (by omega)
  unfold l_markPath
  simp only [q0, obind_some, peta]

theorem mark_Packet {x : den tPacket} {k : Int} (h : SmB 4611686018427387904 tPacket x) (hk : 0 ≤ k) (hb : k + ((lv (.sl tPathPart) x.2.2.2.1 : Nat) : Int) + ((lv (.sl tb) x.2.2.2.2.2.2.2.2.2 : Nat) : Int) ≤ 4611686018427387904) : l_markPacket x k = some (k + ((lv (.sl tPathPart) x.2.2.2.1 : Nat) : Int) + ((lv (.sl tb) x.2.2.2.2.2.2.2.2.2 : Nat) : Int), mkT (.sl tPathPart) x.2.2.2.1 (k), mkT (.sl tb) x.2.2.2.2.2.2.2.2.2 (k + ((lv (.sl tPathPart) x.2.2.2.1 : Nat) : Int))) := by
  have q0 := mark_Path (x := x.2.2.2.1) (k := k) h.2.2.2.1 (by omega) (by omega)
  have q1 := mark_ByteS (l := x.2.2.2.2.2.2.2.2.2) (k := k + ((lv (.sl tPathPart) x.2.2.2.1 : Nat) : Int)) h.2.2.2.2.2.2.2.2.2 (by omega) (by omega)
  unfold l_markPacket
  simp only [q0, q1, obind_some, peta]

theorem held_ByteS {l : den (.sl tb)} {k : Int} (h : SmB 4611686018427387904 (.sl tb) l) (hk : 0 ≤ k) (hb : k + ((lv (.sl tb) l : Nat) : Int) ≤ 4611686018427387904) : l_heldByteS (mkT (.sl tb) l k) k = some (k + ((lv (.sl tb) l : Nat) : Int)) := by
  have hc := cntAll_sum (lv tb) l
  have hc : k + ((cntAll (lv tb) l : Nat) : Int) = k + ((lv (.sl tb) l : Nat) : Int) := by rw [hc]; rfl
  unfold l_heldByteS
  have := held0 (cE := lv tb) (mE := mkT tb) (SmB 4611686018427387904 tb) (fun (a_a : List Int) => fun (s3 : Int × Int) => cond (decide (s3.2 < (a_a.length : Int))) (Option.bind (idx a_a s3.2) fun x4 => cond (x4 != (IntKind.wrap .u8 s3.1)) (some (Sum.inr (Sum.inr (-1 : Int)))) (some (Sum.inl (wr (s3.1 + (1 : Int)), wr (s3.2 + (1 : Int)))))) (some (Sum.inr (Sum.inl s3.1)))) (l := l) (k := k) (fun k i L x hx hi hN hk hb hp => by
      have hd : decide ((i : Int) < (L.length : Int)) = true := by simpa using hi
      have hd0 : decide ((0 : Int) ≤ (i : Int)) = true := by simp
      have hw : IntKind.i64.wrap ((i : Int) + 1) = ((i + 1 : Nat) : Int) := by rw [wrap_in (by omega) (by omega)]; omega
      have hl : k + ((lv tb x : Nat) : Int) = k + 1 := by simp only [lv] <;> omega
      rw [hl] at hb
      rw [hl]
      have hE : mkT tb x k = IntKind.u8.wrap (k) := by first | rfl | (simp [mkT, lv]; try omega)
      have f0 : IntKind.i64.wrap (k + 1) = k + 1 := wrap_in (by omega) (by omega)
      rw [hE] at hx
      have hi2 : idx L (i : Int) = some (IntKind.u8.wrap (k)) := by rw [idx_nat]; exact hx
      simp only [hd, hw, hi2, cond_true, obind_some, bne_self_eq_false, cond_false, f0]) (fun k L => by simp) h.1 h.2 hk (by rw [hc]; exact hb)
  rw [hc] at this
  show Option.bind (loopM _ (k, (0 : Int))) _ = _
  rw [show (mkT (.sl tb) l k) = markAll (lv tb) (mkT tb) l k from rfl, this]
  rfl

theorem held_MessageS {l : den (.sl tMessage)} {k : Int} (h : SmB 4611686018427387904 (.sl tMessage) l) (hk : 0 ≤ k) (hb : k + ((lv (.sl tMessage) l : Nat) : Int) ≤ 4611686018427387904) : l_heldMessageS (mkT (.sl tMessage) l k) k = some (k + ((lv (.sl tMessage) l : Nat) : Int)) := by
  have hc := cntAll_sum (lv tMessage) l
  have hc : k + ((cntAll (lv tMessage) l : Nat) : Int) = k + ((lv (.sl tMessage) l : Nat) : Int) := by rw [hc]; rfl
  unfold l_heldMessageS
  have := held0 (cE := lv tMessage) (mE := mkT tMessage) (SmB 4611686018427387904 tMessage) (fun (a_a : List (den tMessage)) => fun (s4 : Int × Int) => cond (decide (s4.2 < (a_a.length : Int))) (Option.bind (idx a_a s4.2) fun x5 => Option.bind (l_heldByteS x5 s4.1) fun y6 => cond (decide (y6 < (0 : Int))) (some (Sum.inr (Sum.inr (-1 : Int)))) (some (Sum.inl (y6, wr (s4.2 + (1 : Int)))))) (some (Sum.inr (Sum.inl s4.1)))) (l := l) (k := k) (fun k i L x hx hi hN hk hb hp => by
      have hd : decide ((i : Int) < (L.length : Int)) = true := by simpa using hi
      have hd0 : decide ((0 : Int) ≤ (i : Int)) = true := by simp
      have hw : IntKind.i64.wrap ((i : Int) + 1) = ((i + 1 : Nat) : Int) := by rw [wrap_in (by omega) (by omega)]; omega
      have hl : k + ((lv tMessage x : Nat) : Int) = k + ((lv (.sl tb) x : Nat) : Int) := by simp only [lv] <;> omega
      rw [hl] at hb
      rw [hl]
      have hE : mkT tMessage x k = mkT (.sl tb) x (k) := by first | rfl | (simp [mkT, lv]; try omega)
      have f0 := held_ByteS (l := x) (k := k) hp (by omega) (by omega)
      have g0 : decide (k + ((lv (.sl tb) x : Nat) : Int) < 0) = false := by simp <;> omega
      rw [hE] at hx
      have hi2 : idx L (i : Int) = some (mkT (.sl tb) x (k)) := by rw [idx_nat]; exact hx
      simp only [hd, hw, hi2, cond_true, obind_some, bne_self_eq_false, cond_false, f0, g0]) (fun k L => by simp) h.1 h.2 hk (by rw [hc]; exact hb)
  rw [hc] at this
  show Option.bind (loopM _ (k, (0 : Int))) _ = _
  rw [show (mkT (.sl tMessage) l k) = markAll (lv tMessage) (mkT tMessage) l k from rfl, this]
  rfl

theorem held_HopS {l : den (.sl tHop)} {k : Int} (h : SmB 4611686018427387904 (.sl tHop) l) (hk : 0 ≤ k) (hb : k + ((lv (.sl tHop) l : Nat) : Int) ≤ 4611686018427387904) : l_heldHopS (mkT (.sl tHop) l k) k = some (k + ((lv (.sl tHop) l : Nat) : Int)) := by
  have hc := cntAll_sum (lv tHop) l
  have hc : k + ((cntAll (lv tHop) l : Nat) : Int) = k + ((lv (.sl tHop) l : Nat) : Int) := by rw [hc]; rfl
  unfold l_heldHopS
  have := held0 (cE := lv tHop) (mE := mkT tHop) (SmB 4611686018427387904 tHop) (fun (a_a : List (den tHop)) => fun (s7 : Int × Int) => cond (decide (s7.2 < (a_a.length : Int))) (Option.bind (idx a_a s7.2) fun x8 => cond (x8.1 != s7.1) (some (Sum.inr (Sum.inr (-1 : Int)))) (Option.bind (idx a_a s7.2) fun x9 => cond (x9.2.1 != (wr (s7.1 + (1 : Int)))) (some (Sum.inr (Sum.inr (-1 : Int)))) (Option.bind (idx a_a s7.2) fun x10 => cond (x10.2.2.1 != (wr ((wr (s7.1 + (1 : Int))) + (1 : Int)))) (some (Sum.inr (Sum.inr (-1 : Int)))) (Option.bind (idx a_a s7.2) fun x11 => cond (x11.2.2.2.1 != (wr ((wr ((wr (s7.1 + (1 : Int))) + (1 : Int))) + (1 : Int)))) (some (Sum.inr (Sum.inr (-1 : Int)))) (Option.bind (idx a_a s7.2) fun x12 => cond (x12.2.2.2.2 != (wr ((wr ((wr ((wr (s7.1 + (1 : Int))) + (1 : Int))) + (1 : Int))) + (1 : Int)))) (some (Sum.inr (Sum.inr (-1 : Int)))) (some (Sum.inl (wr ((wr ((wr ((wr ((wr (s7.1 + (1 : Int))) + (1 : Int))) + (1 : Int))) + (1 : Int))) + (1 : Int)), wr (s7.2 + (1 : Int)))))))))) (some (Sum.inr (Sum.inl s7.1)))) (l := l) (k := k) (fun k i L x hx hi hN hk hb hp => by
      have hd : decide ((i : Int) < (L.length : Int)) = true := by simpa using hi
      have hd0 : decide ((0 : Int) ≤ (i : Int)) = true := by simp
      have hw : IntKind.i64.wrap ((i : Int) + 1) = ((i + 1 : Nat) : Int) := by rw [wrap_in (by omega) (by omega)]; omega
      have hl : k + ((lv tHop x : Nat) : Int) = k + 1 + 1 + 1 + 1 + 1 := by simp only [lv] <;> omega
      rw [hl] at hb
      rw [hl]
      have hE : mkT tHop x k = (k, k + 1, k + 1 + 1, k + 1 + 1 + 1, k + 1 + 1 + 1 + 1) := by first | rfl | (simp [mkT, lv]; try omega)
      have f0 : IntKind.i64.wrap (k + 1) = k + 1 := wrap_in (by omega) (by omega)
      have f1 : IntKind.i64.wrap (k + 1 + 1) = k + 1 + 1 := wrap_in (by omega) (by omega)
      have f2 : IntKind.i64.wrap (k + 1 + 1 + 1) = k + 1 + 1 + 1 := wrap_in (by omega) (by omega)
      have f3 : IntKind.i64.wrap (k + 1 + 1 + 1 + 1) = k + 1 + 1 + 1 + 1 := wrap_in (by omega) (by omega)
      have f4 : IntKind.i64.wrap (k + 1 + 1 + 1 + 1 + 1) = k + 1 + 1 + 1 + 1 + 1 := wrap_in (by omega) (by omega)
      rw [hE] at hx
      have hi2 : idx L (i : Int) = some (k, k + 1, k + 1 + 1, k + 1 + 1 + 1, k + 1 + 1 + 1 + 1) := by rw [idx_nat]; exact hx
      simp only [hd, hw, hi2, cond_true, obind_some, bne_self_eq_false, cond_false, f0, f1, f2, f3, f4]) (fun k L => by simp) h.1 h.2 hk (by rw [hc]; exact hb)
  rw [hc] at this
  show Option.bind (loopM _ (k, (0 : Int))) _ = _
  rw [show (mkT (.sl tHop) l k) = markAll (lv tHop) (mkT tHop) l k from rfl, this]
  rfl

theorem held_PathPartS {l : den (.sl tPathPart)} {k : Int} (h : SmB 4611686018427387904 (.sl tPathPart) l) (hk : 0 ≤ k) (hb : k + ((lv (.sl tPathPart) l : Nat) : Int) ≤ 4611686018427387904) : l_heldPathPartS (mkT (.sl tPathPart) l k) k = some (k + ((lv (.sl tPathPart) l : Nat) : Int)) := by
  have hc := cntAll_sum (lv tPathPart) l
  have hc : k + ((cntAll (lv tPathPart) l : Nat) : Int) = k + ((lv (.sl tPathPart) l : Nat) : Int) := by rw [hc]; rfl
  unfold l_heldPathPartS
  have := held0 (cE := lv tPathPart) (mE := mkT tPathPart) (SmB 4611686018427387904 tPathPart) (fun (a_a : List (den tPathPart)) => fun (s7 : Int × Int) => cond (decide (s7.2 < (a_a.length : Int))) (Option.bind (idx a_a s7.2) fun x8 => cond (x8.1 != s7.1) (some (Sum.inr (Sum.inr (-1 : Int)))) (Option.bind (idx a_a s7.2) fun x9 => cond (x9.2.1 != (wr (s7.1 + (1 : Int)))) (some (Sum.inr (Sum.inr (-1 : Int)))) (Option.bind (idx a_a s7.2) fun x10 => cond (x10.2.2.1 != (wr ((wr (s7.1 + (1 : Int))) + (1 : Int)))) (some (Sum.inr (Sum.inr (-1 : Int)))) (Option.bind (idx a_a s7.2) fun x11 => Option.bind (l_heldHopS x11.2.2.2 (wr ((wr ((wr (s7.1 + (1 : Int))) + (1 : Int))) + (1 : Int)))) fun y12 => cond (decide (y12 < (0 : Int))) (some (Sum.inr (Sum.inr (-1 : Int)))) (some (Sum.inl (y12, wr (s7.2 + (1 : Int))))))))) (some (Sum.inr (Sum.inl s7.1)))) (l := l) (k := k) (fun k i L x hx hi hN hk hb hp => by
      have hd : decide ((i : Int) < (L.length : Int)) = true := by simpa using hi
      have hd0 : decide ((0 : Int) ≤ (i : Int)) = true := by simp
      have hw : IntKind.i64.wrap ((i : Int) + 1) = ((i + 1 : Nat) : Int) := by rw [wrap_in (by omega) (by omega)]; omega
      have hl : k + ((lv tPathPart x : Nat) : Int) = k + 1 + 1 + 1 + ((lv (.sl tHop) x.2.2.2 : Nat) : Int) := by simp only [lv] <;> omega
      rw [hl] at hb
      rw [hl]
      have hE : mkT tPathPart x k = (k, k + 1, k + 1 + 1, mkT (.sl tHop) x.2.2.2 (k + 1 + 1 + 1)) := by first | rfl | (simp [mkT, lv]; try omega)
      have f0 : IntKind.i64.wrap (k + 1) = k + 1 := wrap_in (by omega) (by omega)
      have f1 : IntKind.i64.wrap (k + 1 + 1) = k + 1 + 1 := wrap_in (by omega) (by omega)
      have f2 : IntKind.i64.wrap (k + 1 + 1 + 1) = k + 1 + 1 + 1 := wrap_in (by omega) (by omega)
      have f3 := held_HopS (l := x.2.2.2) (k := k + 1 + 1 + 1) hp.2.2.2 (by omega) (by omega)
      have g3 : decide (k + 1 + 1 + 1 + ((lv (.sl tHop) x.2.2.2 : Nat) : Int) < 0) = false := by simp <;> omega
      rw [hE] at hx
      have hi2 : idx L (i : Int) = some (k, k + 1, k + 1 + 1, mkT (.sl tHop) x.2.2.2 (k + 1 + 1 + 1)) := by rw [idx_nat]; exact hx
      simp only [hd, hw, hi2, cond_true, obind_some, bne_self_eq_false, cond_false, f0, f1, f2, f3, g3]) (fun k L => by simp) h.1 h.2 hk (by rw [hc]; exact hb)
  rw [hc] at this
  show Option.bind (loopM _ (k, (0 : Int))) _ = _
  rw [show (mkT (.sl tPathPart) l k) = markAll (lv tPathPart) (mkT tPathPart) l k from rfl, this]
  rfl

theorem held_PathS {l : den (.sl tPath)} {k : Int} (h : SmB 4611686018427387904 (.sl tPath) l) (hk : 0 ≤ k) (hb : k + ((lv (.sl tPath) l : Nat) : Int) ≤ 4611686018427387904) : l_heldPathS (mkT (.sl tPath) l k) k = some (k + ((lv (.sl tPath) l : Nat) : Int)) := by
  have hc := cntAll_sum (lv tPath) l
  have hc : k + ((cntAll (lv tPath) l : Nat) : Int) = k + ((lv (.sl tPath) l : Nat) : Int) := by rw [hc]; rfl
  unfold l_heldPathS
  have := held0 (cE := lv tPath) (mE := mkT tPath) (SmB 4611686018427387904 tPath) (fun (a_a : List (den tPath)) => fun (s4 : Int × Int) => cond (decide (s4.2 < (a_a.length : Int))) (Option.bind (idx a_a s4.2) fun x5 => Option.bind (l_heldPathPartS x5 s4.1) fun y6 => cond (decide (y6 < (0 : Int))) (some (Sum.inr (Sum.inr (-1 : Int)))) (some (Sum.inl (y6, wr (s4.2 + (1 : Int)))))) (some (Sum.inr (Sum.inl s4.1)))) (l := l) (k := k) (fun k i L x hx hi hN hk hb hp => by
      have hd : decide ((i : Int) < (L.length : Int)) = true := by simpa using hi
      have hd0 : decide ((0 : Int) ≤ (i : Int)) = true := by simp
      have hw : IntKind.i64.wrap ((i : Int) + 1) = ((i + 1 : Nat) : Int) := by rw [wrap_in (by omega) (by omega)]; omega
      have hl : k + ((lv tPath x : Nat) : Int) = k + ((lv (.sl tPathPart) x : Nat) : Int) := by simp only [lv] <;> omega
      rw [hl] at hb
      rw [hl]
      have hE : mkT tPath x k = mkT (.sl tPathPart) x (k) := by first | rfl | (simp [mkT, lv]; try omega)
      have f0 := held_PathPartS (l := x) (k := k) hp (by omega) (by omega)
      have g0 : decide (k + ((lv (.sl tPathPart) x : Nat) : Int) < 0) = false := by simp <;> omega
      rw [hE] at hx
      have hi2 : idx L (i : Int) = some (mkT (.sl tPathPart) x (k)) := by rw [idx_nat]; exact hx
      simp only [hd, hw, hi2, cond_true, obind_some, bne_self_eq_false, cond_false, f0, g0]) (fun k L => by simp) h.1 h.2 hk (by rw [hc]; exact hb)
  rw [hc] at this
  show Option.bind (loopM _ (k, (0 : Int))) _ = _
  rw [show (mkT (.sl tPath) l k) = markAll (lv tPath) (mkT tPath) l k from rfl, this]
  rfl

theorem held_RevocationS {l : den (.sl tRevocation)} {k : Int} (h : SmB 4611686018427387904 (.sl tRevocation) l) (hk : 0 ≤ k) (hb : k + ((lv (.sl tRevocation) l : Nat) : Int) ≤ 4611686018427387904) : l_heldRevocationS (mkT (.sl tRevocation) l k) k = some (k + ((lv (.sl tRevocation) l : Nat) : Int)) := by
  have hc := cntAll_sum (lv tRevocation) l
  have hc : k + ((cntAll (lv tRevocation) l : Nat) : Int) = k + ((lv (.sl tRevocation) l : Nat) : Int) := by rw [hc]; rfl
  unfold l_heldRevocationS
  have := held0 (cE := lv tRevocation) (mE := mkT tRevocation) (SmB 4611686018427387904 tRevocation) (fun (a_a : List (den tRevocation)) => fun (s5 : Int × Int) => cond (decide (s5.2 < (a_a.length : Int))) (Option.bind (idx a_a s5.2) fun x6 => cond (x6.1 != s5.1) (some (Sum.inr (Sum.inr (-1 : Int)))) (Option.bind (idx a_a s5.2) fun x7 => cond (x7.2.1 != (wr (s5.1 + (1 : Int)))) (some (Sum.inr (Sum.inr (-1 : Int)))) (Option.bind (idx a_a s5.2) fun x8 => cond (x8.2.2 != (wr ((wr (s5.1 + (1 : Int))) + (1 : Int)))) (some (Sum.inr (Sum.inr (-1 : Int)))) (some (Sum.inl (wr ((wr ((wr (s5.1 + (1 : Int))) + (1 : Int))) + (1 : Int)), wr (s5.2 + (1 : Int)))))))) (some (Sum.inr (Sum.inl s5.1)))) (l := l) (k := k) (fun k i L x hx hi hN hk hb hp => by
      have hd : decide ((i : Int) < (L.length : Int)) = true := by simpa using hi
      have hd0 : decide ((0 : Int) ≤ (i : Int)) = true := by simp
      have hw : IntKind.i64.wrap ((i : Int) + 1) = ((i + 1 : Nat) : Int) := by rw [wrap_in (by omega) (by omega)]; omega
      have hl : k + ((lv tRevocation x : Nat) : Int) = k + 1 + 1 + 1 := by simp only [lv] <;> omega
      rw [hl] at hb
      rw [hl]
      have hE : mkT tRevocation x k = (k, k + 1, k + 1 + 1) := by first | rfl | (simp [mkT, lv]; try omega)
      have f0 : IntKind.i64.wrap (k + 1) = k + 1 := wrap_in (by omega) (by omega)
      have f1 : IntKind.i64.wrap (k + 1 + 1) = k + 1 + 1 := wrap_in (by omega) (by omega)
      have f2 : IntKind.i64.wrap (k + 1 + 1 + 1) = k + 1 + 1 + 1 := wrap_in (by omega) (by omega)
      rw [hE] at hx
      have hi2 : idx L (i : Int) = some (k, k + 1, k + 1 + 1) := by rw [idx_nat]; exact hx
      simp only [hd, hw, hi2, cond_true, obind_some, bne_self_eq_false, cond_false, f0, f1, f2]) (fun k L => by simp) h.1 h.2 hk (by rw [hc]; exact hb)
  rw [hc] at this
  show Option.bind (loopM _ (k, (0 : Int))) _ = _
  rw [show (mkT (.sl tRevocation) l k) = markAll (lv tRevocation) (mkT tRevocation) l k from rfl, this]
  rfl

theorem held_Flow {x : den tFlow} {k : Int} (h : SmB 4611686018427387904 tFlow x) (hk : 0 ≤ k) (hb : k + ((lv (.sl tMessage) x.2.2.2.2.1 : Nat) : Int) + ((lv (.sl tPath) x.2.2.2.2.2.1 : Nat) : Int) + ((lv (.sl tRevocation) x.2.2.2.2.2.2.2.2 : Nat) : Int) ≤ 4611686018427387904) : l_heldFlow (x.1, x.2.1, x.2.2.1, x.2.2.2.1, mkT (.sl tMessage) x.2.2.2.2.1 (k), mkT (.sl tPath) x.2.2.2.2.2.1 (k + ((lv (.sl tMessage) x.2.2.2.2.1 : Nat) : Int)), x.2.2.2.2.2.2.1, x.2.2.2.2.2.2.2.1, mkT (.sl tRevocation) x.2.2.2.2.2.2.2.2 (k + ((lv (.sl tMessage) x.2.2.2.2.1 : Nat) : Int) + ((lv (.sl tPath) x.2.2.2.2.2.1 : Nat) : Int))) k = some (k + ((lv (.sl tMessage) x.2.2.2.2.1 : Nat) : Int) + ((lv (.sl tPath) x.2.2.2.2.2.1 : Nat) : Int) + ((lv (.sl tRevocation) x.2.2.2.2.2.2.2.2 : Nat) : Int)) := by
  have q0 := held_MessageS (l := x.2.2.2.2.1) (k := k) h.2.2.2.2.1 (by omega) (by omega)
  have q1 := held_PathS (l := x.2.2.2.2.2.1) (k := k + ((lv (.sl tMessage) x.2.2.2.2.1 : Nat) : Int)) h.2.2.2.2.2.1 (by omega) (by omega)
  have q2 := held_RevocationS (l := x.2.2.2.2.2.2.2.2) (k := k + ((lv (.sl tMessage) x.2.2.2.2.1 : Nat) : Int) + ((lv (.sl tPath) x.2.2.2.2.2.1 : Nat) : Int)) h.2.2.2.2.2.2.2.2 (by omega) (by omega)
  have d0 : decide (k + ((lv (.sl tMessage) x.2.2.2.2.1 : Nat) : Int) < 0) = false := by simp <;> omega
  have d1 : decide (k + ((lv (.sl tMessage) x.2.2.2.2.1 : Nat) : Int) + ((lv (.sl tPath) x.2.2.2.2.2.1 : Nat) : Int) < 0) = false := by simp <;> omega
  have d2 : decide (k + ((lv (.sl tMessage) x.2.2.2.2.1 : Nat) : Int) + ((lv (.sl tPath) x.2.2.2.2.2.1 : Nat) : Int) + ((lv (.sl tRevocation) x.2.2.2.2.2.2.2.2 : Nat) : Int) < 0) = false := by simp <;> omega
  unfold l_heldFlow
  simp only [q0, q1, q2, d0, d1, d2, obind_some, peta, cond_false]

def inR (n a b : Int) : Bool := decide (a ≤ n) && decide (n ≤ b)

theorem i_in (n a b : Int) : i_InRange n a b = some (inR n a b) := by
  unfold i_InRange inR
  by_cases h : a ≤ n <;> simp [h]

theorem s_in (n a b : Int) : s_l1In n a b = some (inR n a b) := by
  unfold s_l1In inR
  by_cases h : a ≤ n <;> simp [h]

theorem inR_iff {n a b : Int} : inR n a b = true ↔ a ≤ n ∧ n ≤ b := by simp [inR]

theorem i_max (a b : Int) : i_Max a b = some (if b > a then b else a) := rfl

theorem s_max (a b : Int) : s_Max a b = some (if b > a then b else a) := by
  unfold s_Max
  by_cases h : b > a <;> simp [h]

theorem i_copyB {b : List Int} (h : b.length ≤ 68719476736) : i_copyBytes b = some b := by
  unfold i_copyBytes
  rw [apOk_le (by decide) (by simpa using h)]; simp

theorem i_copyH {l : List (den tHop)} (h : l.length ≤ 68719476736) : i_copyHops l = some l := by
  unfold i_copyHops
  rw [apOk_le (by decide) (by simpa using h)]; simp

theorem i_copyV {l : List (den tRevocation)} (h : l.length ≤ 68719476736) : i_copyRevocations l = some l := by
  unfold i_copyRevocations
  rw [apOk_le (by decide) (by simpa using h)]; simp

theorem s_copyPt {p : den tPathPart} (h : SmB 68719476736 tPathPart p) : s_l21Copy p = some p := by
  unfold s_l21Copy
  rw [apOk_le (by decide) (by simpa using h.2.2.2.1)]; simp

theorem i_copyP {p : den tPath} (h : SmB 68719476736 tPath p) : i_copyPath p = some p := by
  unfold i_copyPath
  rw [(loopF (fun k (a : List (den tPathPart)) => ((k : Int), a)) ((0 : Int), []) [] p (fun _ x a => a ++ [x]) List.length (fun _ => 1) 68719476736 id rfl (Nat.le_trans h.1 (by decide)) (by rw [sum_one]; simpa using h.1) (fun k x a hi hx hd hw hk hb => by
    have e := h.2 x (List.mem_of_getElem? hx)
    simp only [hd, hi, hw, cond_true, obind_some, i_copyH e.2.2.2.1, peta, apOk_le (b := 48) (by decide) hb]
    simp) (fun a => by simp)).1, foldI_map (fun x => x)]
  simp

theorem s_copyP {p : den tPath} (h : SmB 68719476736 tPath p) : s_l22Copy p = some p := by
  unfold s_l22Copy
  rw [(loopF (fun k (a : List (den tPathPart)) => ((k : Int), a)) ((0 : Int), []) [] p (fun _ x a => a ++ [x]) List.length (fun _ => 1) 68719476736 id rfl (Nat.le_trans h.1 (by decide)) (by rw [sum_one]; simpa using h.1) (fun k x a hi hx hd hw hk hb => by
    have e := h.2 x (List.mem_of_getElem? hx)
    simp only [hd, hi, hw, cond_true, obind_some, peta, s_copyPt e, apOk_le (b := 48) (by decide) hb]
    simp) (fun a => by simp)).1, foldI_map (fun x => x)]
  simp

theorem i_copyPs {l : List (den tPath)} (h : SmB 68719476736 (.sl tPath) l) : i_copyPaths l = some l := by
  unfold i_copyPaths
  rw [(loopF (fun k (a : List (den tPath)) => ((k : Int), a)) ((0 : Int), []) [] l (fun _ x a => a ++ [x]) List.length (fun _ => 1) 68719476736 id rfl (Nat.le_trans h.1 (by decide)) (by rw [sum_one]; simpa using h.1) (fun k x a hi hx hd hw hk hb => by
    have e := h.2 x (List.mem_of_getElem? hx)
    simp only [hd, hi, hw, cond_true, obind_some, i_copyP e, apOk_le (b := 24) (by decide) hb]
    simp) (fun a => by simp)).1, foldI_map (fun x => x)]
  simp

theorem s_copyPs {l : List (den tPath)} (h : SmB 68719476736 (.sl tPath) l) : s_l24Copy l = some l := by
  unfold s_l24Copy
  rw [(loopF (fun k (a : List (den tPath)) => ((k : Int), a)) ((0 : Int), []) [] l (fun _ x a => a ++ [x]) List.length (fun _ => 1) 68719476736 id rfl (Nat.le_trans h.1 (by decide)) (by rw [sum_one]; simpa using h.1) (fun k x a hi hx hd hw hk hb => by
    have e := h.2 x (List.mem_of_getElem? hx)
    simp only [hd, hi, hw, cond_true, obind_some, s_copyP e, apOk_le (b := 24) (by decide) hb]
    simp) (fun a => by simp)).1, foldI_map (fun x => x)]
  simp

theorem i_copyM {l : List (den tMessage)} (h : SmB 68719476736 (.sl tMessage) l) : i_copyMessages l = some l := by
  unfold i_copyMessages
  rw [(loopF (fun k (a : List (den tMessage)) => ((k : Int), a)) ((0 : Int), []) [] l (fun _ x a => a ++ [x]) List.length (fun _ => 1) 68719476736 id rfl (Nat.le_trans h.1 (by decide)) (by rw [sum_one]; simpa using h.1) (fun k x a hi hx hd hw hk hb => by
    have e := h.2 x (List.mem_of_getElem? hx)
    simp only [hd, hi, hw, cond_true, obind_some, i_copyB e.1, apOk_le (b := 24) (by decide) hb]
    simp) (fun a => by simp)).1, foldI_map (fun x => x)]
  simp

theorem s_copyM {l : List (den tMessage)} (h : SmB 68719476736 (.sl tMessage) l) : s_l35Texts l = some l := by
  unfold s_l35Texts
  rw [(loopF (fun k (a : List (den tMessage)) => ((k : Int), a)) ((0 : Int), []) [] l (fun _ x a => a ++ [x]) List.length (fun _ => 1) 68719476736 id rfl (Nat.le_trans h.1 (by decide)) (by rw [sum_one]; simpa using h.1) (fun k x a hi hx hd hw hk hb => by
    have e := h.2 x (List.mem_of_getElem? hx)
    simp only [hd, hi, hw, cond_true, obind_some, apOk_le (b := 1) (n := ([] : List Int).length) (by decide) (by simpa using e.1), apOk_le (b := 24) (by decide) hb]
    simp) (fun a => by simp)).1, foldI_map (fun x => x)]
  simp

/-- A flow as it is handed back: its slices last. -/
def flowR (f : den tFlow) : Int × Int × Int × Int × Int × Int × (List (den tMessage)) × (List (den tPath)) × (List (den tRevocation)) := (f.1, f.2.1, f.2.2.1, f.2.2.2.1, f.2.2.2.2.2.2.1, f.2.2.2.2.2.2.2.1, f.2.2.2.2.1, f.2.2.2.2.2.1, f.2.2.2.2.2.2.2.2)

theorem i_copyF {f : den tFlow} (h : SmB 68719476736 tFlow f) : i_copyFlow f = some (flowR f) := by
  unfold i_copyFlow flowR
  simp only [i_copyM h.2.2.2.2.1, i_copyPs h.2.2.2.2.2.1, i_copyV h.2.2.2.2.2.2.2.2.1, obind_some]

theorem s_copyF {f : den tFlow} (h : SmB 68719476736 tFlow f) : s_l35Copy f = some (flowR f) := by
  unfold s_l35Copy flowR
  simp only [s_copyM h.2.2.2.2.1, s_copyPs h.2.2.2.2.2.1, obind_some, apOk_le (b := 24) (n := ([] : List (den tRevocation)).length) (by decide) (by simpa using h.2.2.2.2.2.2.2.2.1), cond_true, List.nil_append]

def validV (x : den tRevocation) : Bool := inR x.1 0 7 && (inR x.2.1 1 6 && inR x.2.2 0 1000000)

theorem i_validV (x : den tRevocation) : i_ValidRevocation x = some (validV x) := by
  unfold i_ValidRevocation validV
  simp only [i_in, obind_some]
  cases inR x.1 0 7 <;> cases inR x.2.1 1 6 <;> cases inR x.2.2 0 1000000 <;> rfl

theorem s_validV (x : den tRevocation) : s_ValidRevocation x = some (validV x) := by
  unfold s_ValidRevocation validV
  simp only [s_in, obind_some]
  cases inR x.1 0 7 <;> cases inR x.2.1 1 6 <;> cases inR x.2.2 0 1000000 <;> rfl

/-- A loop that answers false at the first that fails. -/
theorem scanB {α S : Type} (p : Nat → α → Bool) : ∀ (l : List α) (k : Nat) (ρ : S), scanI (fun k x => if p k x then none else some ρ) k l = if (l.zipIdx k).all (fun x => p x.2 x.1) then none else some ρ
  | [], _, _ => rfl
  | x :: xs, k, ρ => by
    simp only [scanI, List.zipIdx_cons, List.all_cons]
    rcases Bool.eq_false_or_eq_true (p k x) with h | h
    · simp only [h, if_true, Bool.true_and]; exact scanB p xs (k + 1) ρ
    · simp [h]

theorem zip_all {α : Type} (p : α → Bool) : ∀ (l : List α) (k : Nat), (l.zipIdx k).all (fun x => p x.1) = l.all p
  | [], _ => rfl
  | x :: xs, k => by simp [List.zipIdx_cons, zip_all p xs]

theorem scanA {α S : Type} (p : α → Bool) (l : List α) (ρ : S) : scanI (fun _ x => if p x then none else some ρ) 0 l = if l.all p then none else some ρ := by
  rw [scanB (fun _ x => p x), zip_all p]

def isRev (k : Int) : Bool := k == 1 || k == 3

theorem i_isRev (k : Int) : i_IsReversed k = some (isRev k) := by
  unfold i_IsReversed isRev
  cases k == 1 <;> rfl

theorem s_isRev (k : Int) : s_IsReversed k = some (isRev k) := by
  unfold s_IsReversed isRev
  cases k == 1 <;> rfl

def pIn (p : den tPathPart) (h : den tHop) : Int := if isRev p.1 then h.2.2.1 else h.2.1

def pEg (p : den tPathPart) (h : den tHop) : Int := if isRev p.1 then h.2.1 else h.2.2.1

theorem wr_len {n : Nat} (h : n ≤ 68719476736) : wr ((n : Int) - 1) = (n : Int) - 1 := wrap_in (by omega) (by omega)

theorem inR_idx {k n : Nat} (h : k < n) : inR (k : Int) 0 ((n : Int) - 1) = true := by rw [inR_iff]; omega

theorem i_pIn {p : den tPathPart} {k : Nat} {h : den tHop} (hk : p.2.2.2[k]? = some h) (hl : p.2.2.2.length ≤ 68719476736) : i_PartIngress p (k : Int) = some (pIn p h) := by
  have hlt : k < p.2.2.2.length := (List.getElem?_eq_some_iff.1 hk).1
  unfold i_PartIngress pIn
  simp only [i_in, wr_len hl, inR_idx hlt, obind_some, Bool.not_true, cond_false, i_isRev, idx_nat, hk]
  cases isRev p.1 <;> rfl

theorem s_pIn {p : den tPathPart} {k : Nat} {h : den tHop} (hk : p.2.2.2[k]? = some h) (hl : p.2.2.2.length ≤ 68719476736) : s_PartIngress p (k : Int) = some (pIn p h) := by
  have hlt : k < p.2.2.2.length := (List.getElem?_eq_some_iff.1 hk).1
  unfold s_PartIngress pIn
  simp only [s_in, wr_len hl, inR_idx hlt, obind_some, Bool.not_true, cond_false, s_isRev, idx_nat, hk]
  cases isRev p.1 <;> rfl

theorem i_pEg {p : den tPathPart} {k : Nat} {h : den tHop} (hk : p.2.2.2[k]? = some h) (hl : p.2.2.2.length ≤ 68719476736) : i_PartEgress p (k : Int) = some (pEg p h) := by
  have hlt : k < p.2.2.2.length := (List.getElem?_eq_some_iff.1 hk).1
  unfold i_PartEgress pEg
  simp only [i_in, wr_len hl, inR_idx hlt, obind_some, Bool.not_true, cond_false, i_isRev, idx_nat, hk]
  cases isRev p.1 <;> rfl

theorem s_pEg {p : den tPathPart} {k : Nat} {h : den tHop} (hk : p.2.2.2[k]? = some h) (hl : p.2.2.2.length ≤ 68719476736) : s_PartEgress p (k : Int) = some (pEg p h) := by
  have hlt : k < p.2.2.2.length := (List.getElem?_eq_some_iff.1 hk).1
  unfold s_PartEgress pEg
  simp only [s_in, wr_len hl, inR_idx hlt, obind_some, Bool.not_true, cond_false, s_isRev, idx_nat, hk]
  cases isRev p.1 <;> rfl

def addS (nf : Bool) (p : den tPathPart) (i : Nat) (h : den tHop) (out : List (den tStep)) : List (den tStep) :=
  match out.getLast? with
  | some z => if nf && (decide (i = 0) && z.1 == h.1) then out.dropLast ++ [(h.1, z.2.1, pEg p h)] else out ++ [(h.1, pIn p h, pEg p h)]
  | none => out ++ [(h.1, pIn p h, pEg p h)]

theorem addS_len (nf : Bool) (p : den tPathPart) (i : Nat) (h : den tHop) (out : List (den tStep)) : (addS nf p i h out).length ≤ out.length + 1 := by
  unfold addS
  split
  · split
    · simp only [List.length_append, List.length_dropLast, List.length_singleton]; omega
    · simp
  · simp

def partS (nf : Bool) (p : den tPathPart) (a : List (den tStep)) : List (den tStep) := foldI (fun i h b => addS nf p i h b) 0 p.2.2.2 a

def steps0 (p : den tPath) : List (den tStep) := foldI (fun k x a => partS (decide (0 < k)) x a) 0 p []

def endS (l : List (den tStep)) : List (den tStep) :=
  match l with
  | [] => []
  | x :: xs => let m := (x.1, 0, x.2.2) :: xs
    match m.getLast? with
    | some y => m.dropLast ++ [(y.1, y.2.1, 0)]
    | none => []

def steps (p : den tPath) : List (den tStep) := endS (steps0 p)

theorem endS_len (l : List (den tStep)) : (endS l).length = l.length := by
  unfold endS
  split
  · rfl
  · rename_i x xs
    simp only
    rw [List.getLast?_eq_some_getLast (by simp)]
    simp

theorem hops_sum (p : den tPath) : (p.map fun x => x.2.2.2.length).sum ≤ tot tPath p := by
  show _ ≤ tot (.sl tPathPart) p
  rw [← tot_sum]
  induction p with
  | nil => exact Nat.le_refl _
  | cons x p ih =>
    simp only [List.map_cons, List.sum_cons]
    have h1 : x.2.2.2.length ≤ tot tPathPart x := by
      show _ ≤ tot ti x.1 + (tot ti x.2.1 + (tot ti x.2.2.1 + tot (.sl tHop) x.2.2.2))
      rw [tot_flatL rfl]; omega
    omega

theorem wr_pos {n : Nat} (h : n ≤ 68719476736) (h0 : 0 < n) : wr ((n : Int) - 1) = ((n - 1 : Nat) : Int) := by
  rw [wr_len h]; omega

theorem wr_last {α : Type} {m : List α} {z : α} (h : (m ++ [z]).length ≤ 68719476736) : wr (((m ++ [z]).length : Int) - 1) = (m.length : Int) := by
  rw [wr_pos h (by simp)]; simp

theorem partS_len (nf : Bool) (p : den tPathPart) (a : List (den tStep)) : (partS nf p a).length ≤ a.length + p.2.2.2.length := by
  have := foldI_m (m := List.length) (cost := fun _ => 1) (fun i h b => addS_len nf p i h b) p.2.2.2 0 a
  rw [sum_one] at this
  exact this

theorem steps0_len (p : den tPath) : (steps0 p).length ≤ tot tPath p := by
  have := foldI_m (m := List.length) (cost := fun x : den tPathPart => x.2.2.2.length) (fun k x a => partS_len (decide (0 < k)) x a) p 0 []
  have h2 := hops_sum p
  have h3 : (steps0 p).length ≤ 0 + (p.map fun x => x.2.2.2.length).sum := this
  omega

theorem steps_len (p : den tPath) : (steps p).length ≤ tot tPath p := by
  unfold steps; rw [endS_len]; exact steps0_len p

theorem dec_pos (k : Nat) : decide ((k : Int) > 0) = decide (0 < k) := by rw [Bool.eq_iff_iff]; simp

theorem dec_zero (i : Nat) : ((i : Int) == 0) = decide (i = 0) := by rw [Bool.eq_iff_iff]; simp

theorem addS_nil (nf : Bool) (p : den tPathPart) (i : Nat) (h : den tHop) : addS nf p i h [] = [(h.1, pIn p h, pEg p h)] := rfl

theorem addS_last (nf : Bool) (p : den tPathPart) (i : Nat) (h : den tHop) (m : List (den tStep)) (z : den tStep) : addS nf p i h (m ++ [z]) = if nf && (decide (i = 0) && z.1 == h.1) then m ++ [(h.1, z.2.1, pEg p h)] else (m ++ [z]) ++ [(h.1, pIn p h, pEg p h)] := by
  unfold addS
  rw [List.getLast?_concat, List.dropLast_concat]

theorem endS_some {m : List (den tStep)} {x z : den tStep} {xs : List (den tStep)} (h : (x.1, (0 : Int), x.2.2) :: xs = m ++ [z]) : endS (x :: xs) = m ++ [(z.1, z.2.1, 0)] := by
  unfold endS
  simp only
  rw [h, List.getLast?_concat, List.dropLast_concat]

theorem i_steps {p : den tPath} (h : tot tPath p ≤ 34359738368) : i_PathSteps p = some (steps p) := by
  have hs := hops_sum p
  have sm : SmB 34359738368 tPath p := sm_of_tot h
  have hl := steps0_len p
  unfold i_PathSteps
  rw [loopG (fun k (a : List (den tStep)) => ((k : Int), a)) ((0 : Int), []) [] p (fun k x a => partS (decide (0 < k)) x a) List.length (fun x => x.2.2.2.length) 34359738368 id rfl (Nat.le_trans sm.1 (by decide)) (by simp only [List.length_nil]; omega) (fun k x a => partS_len _ x a) (fun k x a hi hx hd hw hk hb => by
    have hxl : x.2.2.2.length ≤ 34359738368 := (sm.2 x (List.mem_of_getElem? hx)).2.2.2.1
    simp only [hd, hi, hw, cond_true, obind_some]
    rw [loopG (fun i (b : List (den tStep)) => ((i : Int), b)) ((0 : Int), a) a x.2.2.2 (fun i h b => addS (decide (0 < k)) x i h b) List.length (fun _ => 1) 34359738368 id rfl (Nat.le_trans hxl (by decide)) (by rw [sum_one]; exact hb) (fun i h b => addS_len _ x i h b) (fun i g b hi2 hg hd2 hw2 hk2 hb2 => by
      have hl2 : x.2.2.2.length ≤ 68719476736 := by omega
      simp only [hd2, hi2, hw2, cond_true, obind_some, peta, i_pIn hg hl2, i_pEg hg hl2, dec_pos, dec_zero, apOk_le (b := 24) (n := b.length) (m := 1) (by decide) (by omega)]
      rcases nil_or_concat b with rfl | ⟨m, z, rfl⟩
      · rw [addS_nil]
        cases decide (0 < k) <;> cases decide (i = 0) <;> rfl
      · rw [addS_last, wr_last (by omega)]
        simp only [pos_nat, pos_nat', lt_last, get_last, cond_true, Int.toNat_natCast, obind_some, set_last]
        cases decide (0 < k) <;> cases decide (i = 0) <;> cases hz : z.1 == g.1 <;> simp [hz]
        simpa using hz) (fun b => by simp)]
    rfl) (fun a => by simp)]
  simp only [obind_some, id]
  rw [show foldI (fun k x a => partS (decide (0 < k)) x a) 0 p [] = steps0 p from rfl]
  show _ = some (endS (steps0 p))
  generalize steps0 p = l at hl
  cases l with
  | nil => rfl
  | cons x xs =>
    have e1 : decide ((((x :: xs).length : Nat) : Int) > 0) = true := by simp
    have e2 : decide ((0 : Int) < (((x :: xs).length : Nat) : Int)) = true := by simp
    have e3 : (0 : Int).toNat = 0 := rfl
    have e4 : decide ((0 : Int) ≤ 0) = true := rfl
    simp only [e1, e2, e3, e4, cond_true, List.getElem?_cons_zero, obind_some, List.set_cons_zero]
    rcases nil_or_concat ((x.1, (0 : Int), x.2.2) :: xs) with h0 | ⟨m, z, hm⟩
    · cases h0
    · have hlen : ((x.1, (0 : Int), x.2.2) :: xs).length = (x :: xs).length := rfl
      rw [endS_some hm]
      rw [hm] at hlen ⊢
      rw [wr_last (by omega)]
      simp only [pos_nat, lt_last, get_last, cond_true, Int.toNat_natCast, obind_some, set_last]

theorem s_steps {p : den tPath} (h : tot tPath p ≤ 34359738368) : s_PathSteps p = some (steps p) := by
  have hs := hops_sum p
  have sm : SmB 34359738368 tPath p := sm_of_tot h
  have hl := steps0_len p
  unfold s_PathSteps
  rw [loopG (fun k (a : List (den tStep)) => ((k : Int), a)) ((0 : Int), []) [] p (fun k x a => partS (decide (0 < k)) x a) List.length (fun x => x.2.2.2.length) 34359738368 id rfl (Nat.le_trans sm.1 (by decide)) (by simp only [List.length_nil]; omega) (fun k x a => partS_len _ x a) (fun k x a hi hx hd hw hk hb => by
    have hxl : x.2.2.2.length ≤ 34359738368 := (sm.2 x (List.mem_of_getElem? hx)).2.2.2.1
    simp only [hd, hi, hw, cond_true, obind_some]
    rw [loopG (fun i (b : List (den tStep)) => ((i : Int), b)) ((0 : Int), a) a x.2.2.2 (fun i h b => addS (decide (0 < k)) x i h b) List.length (fun _ => 1) 34359738368 id rfl (Nat.le_trans hxl (by decide)) (by rw [sum_one]; exact hb) (fun i h b => addS_len _ x i h b) (fun i g b hi2 hg hd2 hw2 hk2 hb2 => by
      have hl2 : x.2.2.2.length ≤ 68719476736 := by omega
      simp only [hd2, hi2, hw2, cond_true, obind_some, peta, s_pIn hg hl2, s_pEg hg hl2, both_self, dec_pos, dec_zero]
      rcases nil_or_concat b with rfl | ⟨m, z, rfl⟩
      · rw [addS_nil]
        cases decide (0 < k) <;> cases decide (i = 0) <;> rfl
      · rw [addS_last, wr_last (by omega)]
        have e1 : decide (((m ++ [z]).length : Int) > 0) = true := by simp
        have e2 : slOk (0 : Int) (m.length : Int) ((m ++ [z]).length : Int) = true := by simp [slOk]; omega
        have e3 : (m ++ [z]).take m.length = m := by simp
        have e4 := apOk_le (b := 24) (n := m.length) (m := 1) (by decide) (by simp at hb2; omega)
        have e5 := apOk_le (b := 24) (n := m.length + 1) (m := 1) (by decide) (by simp at hb2; omega)
        simp only [pos_nat, e1, e2, e3, lt_last, get_last, cond_true, Int.toNat_natCast, obind_some]
        cases decide (0 < k) <;> cases decide (i = 0) <;> cases hz : z.1 == g.1 <;> simp [hz, e4, e5]) (fun b => by simp [hi])]
    rfl) (fun a => by simp)]
  simp only [obind_some, id]
  rw [show foldI (fun k x a => partS (decide (0 < k)) x a) 0 p [] = steps0 p from rfl]
  show _ = some (endS (steps0 p))
  generalize steps0 p = l at hl
  cases l with
  | nil => rfl
  | cons x xs =>
    have e1 : decide ((((x :: xs).length : Nat) : Int) > 0) = true := by simp
    have e2 : decide ((0 : Int) < (((x :: xs).length : Nat) : Int)) = true := by simp
    have e3 : (0 : Int).toNat = 0 := rfl
    have e4 : decide ((0 : Int) ≤ 0) = true := rfl
    have e5 : decide (0 < (x :: xs).length) = true := by simp
    simp only [e1, e2, e3, e4, e5, cond_true, List.getElem?_cons_zero, obind_some, List.set_cons_zero]
    rcases nil_or_concat ((x.1, (0 : Int), x.2.2) :: xs) with h0 | ⟨m, z, hm⟩
    · cases h0
    · have hlen : ((x.1, (0 : Int), x.2.2) :: xs).length = (x :: xs).length := rfl
      rw [endS_some hm]
      rw [hm] at hlen ⊢
      rw [wr_last (by omega)]
      have e6 : decide (m.length < (m ++ [z]).length) = true := by simp
      simp only [pos_nat, lt_last, get_last, e6, cond_true, Int.toNat_natCast, obind_some, set_last]

def nextP (f : den tFlow) : Int := if wr (f.2.2.2.2.2.2.1 + 1) ≥ (f.2.2.2.2.2.1.length : Int) then 0 else wr (f.2.2.2.2.2.2.1 + 1)

def setCW (f : den tFlow) (c w : Int) : den tFlow := (f.1, f.2.1, f.2.2.1, f.2.2.2.1, f.2.2.2.2.1, f.2.2.2.2.2.1, c, w, f.2.2.2.2.2.2.2.2)

theorem i_nextP (f : den tFlow) : i_nextPath f = some (nextP f) := by
  unfold i_nextPath nextP
  by_cases h : wr (f.2.2.2.2.2.2.1 + 1) ≥ (f.2.2.2.2.2.1.length : Int)
  · rw [decide_eq_true h, if_pos h]; rfl
  · rw [decide_eq_false h, if_neg h]; rfl

theorem turn_key {c : Int} {n : Nat} (h0 : 0 ≤ c) (h1 : c ≤ (n : Int) - 1) (hn : n ≤ 68719476736) : inR c 0 (wr ((n : Int) - 2)) = !decide (wr (c + 1) ≥ (n : Int)) := by
  have e1 : wr ((n : Int) - 2) = (n : Int) - 2 := wrap_in (by omega) (by omega)
  have e2 : wr (c + 1) = c + 1 := wrap_in (by omega) (by omega)
  rw [e1, e2, Bool.eq_iff_iff, inR_iff]
  simp
  omega

theorem s_turn {f : den tFlow} (h : SmB 68719476736 tFlow f) (hs : inR f.2.2.2.2.2.2.1 0 ((f.2.2.2.2.2.1.length : Int) - 1) = true) : s_l35Turn f = some (flowR (setCW f (nextP f) f.2.2.2.2.2.2.2.1)) := by
  unfold s_l35Turn nextP
  have hl := h.2.2.2.2.2.1.1
  rw [inR_iff] at hs
  simp only [peta, s_copyF h, s_in, turn_key hs.1 hs.2 hl, obind_some, flowR]
  by_cases hc : wr (f.2.2.2.2.2.2.1 + 1) ≥ (f.2.2.2.2.2.1.length : Int)
  · rw [decide_eq_true hc, if_pos hc]; rfl
  · rw [decide_eq_false hc, if_neg hc]; rfl

theorem bAnd_127 {n : Nat} (h : n < 9223372036854775808) : bAnd .i64 (n : Int) 127 = ((n % 128 : Nat) : Int) := by
  have e : (BitVec.ofInt 64 (n : Int) &&& BitVec.ofInt 64 127).toNat = n % 128 := by
    rw [BitVec.toNat_and]
    have e1 : (BitVec.ofInt 64 (n : Int)).toNat = n := by simp; omega
    have e2 : (BitVec.ofInt 64 127).toNat = 2 ^ 7 - 1 := by decide
    rw [e1, e2, Nat.and_two_pow_sub_one_eq_mod]
  unfold bAnd
  show IntKind.i64.wrap (((BitVec.ofInt 64 (n : Int) &&& BitVec.ofInt 64 127).toNat : Nat) : Int) = _
  rw [e]
  exact wrap_in (by omega) (by omega)

theorem flow_parts {f : den tFlow} {N : Nat} (h : tot tFlow f ≤ N) : tot (.sl tMessage) f.2.2.2.2.1 ≤ N ∧ tot (.sl tPath) f.2.2.2.2.2.1 ≤ N ∧ tot (.sl tRevocation) f.2.2.2.2.2.2.2.2 ≤ N := by
  have h0 := tot_r (tot_r (tot_r (tot_r h)))
  exact ⟨tot_l h0, tot_l (tot_r h0), tot_r (tot_r (tot_r (tot_r h0)))⟩

def rvGo (b : List Int) (p : Nat) : Nat → Nat → Nat → Int × Int × Bool
  | 0, _, _ => (0, 0, false)
  | f + 1, k, n => match b[p + k]? with
    | none => (0, 0, false)
    | some x =>
      if x.toNat < 128 then (if (decide (x.toNat = 0) && decide (0 < k)) || decide (1000000000000 < n + x.toNat % 128 * 2 ^ (7 * k)) then (0, 0, false) else (((n + x.toNat % 128 * 2 ^ (7 * k) : Nat) : Int), ((p + k + 1 : Nat) : Int), true))
      else rvGo b p f (k + 1) (n + x.toNat % 128 * 2 ^ (7 * k))

theorem pow7_le {k : Nat} (h : k < 6) : 2 ^ (7 * k) ≤ 34359738368 := Nat.le_trans (Nat.pow_le_pow_right (by decide) (show 7 * k ≤ 35 by omega)) (by decide)

theorem pow7_next {n c k : Nat} (h : n < 2 ^ (7 * k)) (hc : c < 128) : n + c * 2 ^ (7 * k) < 2 ^ (7 * (k + 1)) := by
  have e : 2 ^ (7 * (k + 1)) = 128 * 2 ^ (7 * k) := by rw [show 7 * (k + 1) = 7 * k + 7 by omega, Nat.pow_add]; omega
  have : c * 2 ^ (7 * k) ≤ 127 * 2 ^ (7 * k) := Nat.mul_le_mul_right _ (by omega)
  omega

theorem mul7_le {c k : Nat} (hk : k < 6) (hc : c < 128) : c * 2 ^ (7 * k) ≤ 4398046511104 := Nat.le_trans (Nat.mul_le_mul (show c ≤ 128 by omega) (pow7_le hk)) (by decide)

theorem rv_loop {S : Type} (b : List Int) (p : Nat) (hb : ∀ x ∈ b, 0 ≤ x ∧ x ≤ 255) (enc : Nat → Nat → S) {step : S → Option (S ⊕ (Unit ⊕ (Int × Int × Bool)))}
    (h0 : ∀ n, step (enc 6 n) = some (.inr (.inl ())))
    (h1 : ∀ k n, k < 6 → b[p + k]? = none → step (enc k n) = some (.inr (.inl ())) ∨ step (enc k n) = some (.inr (.inr (0, 0, false))))
    (h2 : ∀ k n (m : Nat), k < 6 → n < 2 ^ (7 * k) → m ≤ 255 → b[p + k]? = some (m : Int) → step (enc k n) = some (if m < 128 then .inr (.inr (if (decide (m = 0) && decide (0 < k)) || decide (1000000000000 < n + m % 128 * 2 ^ (7 * k)) then (0, 0, false) else (((n + m % 128 * 2 ^ (7 * k) : Nat) : Int), ((p + k + 1 : Nat) : Int), true))) else .inl (enc (k + 1) (n + m % 128 * 2 ^ (7 * k))))) :
    ∀ f k n, f + k = 6 → n < 2 ^ (7 * k) → @Option.bind (Unit ⊕ (Int × Int × Bool)) (Int × Int × Bool) (loopM step (enc k n)) (fun z => Sum.elim (fun _ => some ((0 : Int), (0 : Int), false)) some z) = some (rvGo b p f k n) := by
  intro f
  induction f with
  | zero =>
    intro k n hk hn
    have : k = 6 := by omega
    subst this
    rw [loopM_done (h0 n)]
    rfl
  | succ f ih =>
    intro k n hk hn
    have hk6 : k < 6 := by omega
    unfold rvGo
    cases hx : b[p + k]? with
    | none => rcases h1 k n hk6 hx with h | h <;> rw [loopM_done h] <;> rfl
    | some x =>
      obtain ⟨x0, x1⟩ := hb x (List.mem_of_getElem? hx)
      obtain ⟨m, rfl⟩ : ∃ m : Nat, x = (m : Int) := ⟨x.toNat, by omega⟩
      have hs := h2 k n m hk6 hn (by omega) hx
      simp only [Int.toNat_natCast]
      by_cases hm : m < 128
      · rw [if_pos hm] at hs ⊢
        rw [loopM_done hs]
        rfl
      · rw [if_neg hm] at hs ⊢
        rw [loopM_next hs]
        exact ih (k + 1) _ (by omega) (pow7_next hn (Nat.mod_lt _ (by decide)))

theorem shl_nat {a c : Nat} (hc : c ≤ 35) (h : a * 2 ^ c ≤ 4398046511104) : shl .i64 (a : Int) (c : Int) = ((a * 2 ^ c : Nat) : Int) := by
  unfold shl
  have e : min ((c : Int)).toNat IntKind.i64.bits = c := by simp [IntKind.bits]; omega
  rw [e]
  have e2 : (a : Int) * 2 ^ c = ((a * 2 ^ c : Nat) : Int) := by simp
  rw [e2]
  exact wrap_in (by omega) (by omega)

theorem bOr_add {n c k : Nat} (hk : k < 6) (hn : n < 2 ^ (7 * k)) (hc : c < 128) : bOr .i64 (n : Int) ((c * 2 ^ (7 * k) : Nat) : Int) = ((n + c * 2 ^ (7 * k) : Nat) : Int) := by
  have hm := mul7_le hk hc
  have hp := pow7_le hk
  have e : (BitVec.ofInt 64 (n : Int) ||| BitVec.ofInt 64 ((c * 2 ^ (7 * k) : Nat) : Int)).toNat = n + c * 2 ^ (7 * k) := by
    rw [BitVec.toNat_or]
    have e1 : (BitVec.ofInt 64 (n : Int)).toNat = n := by simp; omega
    have e2 : (BitVec.ofInt 64 ((c * 2 ^ (7 * k) : Nat) : Int)).toNat = c * 2 ^ (7 * k) := by
      generalize c * 2 ^ (7 * k) = q at hm
      simp; omega
    rw [e1, e2, Nat.or_comm]
    have := Nat.two_pow_add_eq_or_of_lt (i := 7 * k) (b := n) hn c
    rw [Nat.mul_comm c, ← this]; omega
  unfold bOr
  show IntKind.i64.wrap (((BitVec.ofInt 64 (n : Int) ||| BitVec.ofInt 64 ((c * 2 ^ (7 * k) : Nat) : Int)).toNat : Nat) : Int) = _
  rw [e]
  exact wrap_in (by omega) (by omega)

theorem u64_wrap {n : Nat} (h : n < 256) : IntKind.wrap .u64 (n : Int) = (n : Int) := by
  simp only [IntKind.wrap, IntKind.signed, IntKind.bits]
  simp
  omega

def rv (b : List Int) (p : Nat) : Int × Int × Bool := rvGo b p 6 0 0

theorem mul_seven (k : Nat) : (7 : Int) * (k : Int) = ((7 * k : Nat) : Int) := by omega

theorem i_rv {b : List Int} {p : Nat} (hb : ∀ x ∈ b, 0 ≤ x ∧ x ≤ 255) (hl : b.length ≤ 68719476736) (hp : p ≤ b.length) : i_ReadVarint b (p : Int) = some (rv b p) := by
  unfold i_ReadVarint
  have e0 : decide ((p : Int) < 0) = false := by simp
  rw [e0, cond_false]
  refine rv_loop b p hb (fun k n => (((p + k : Nat) : Int), (n : Int), (k : Int))) (fun n => by simp) (fun k n hk hx => ?_) (fun k n m hk hn hm hx => ?_) 6 0 0 rfl (by simp)
  · left
    have h1 : decide (((p + k : Nat) : Int) < (b.length : Int)) = false := by
      have := List.getElem?_eq_none_iff.1 hx
      simp; omega
    simp only [h1]
    cases decide ((k : Int) < 6) <;> rfl
  · have h0 := (List.getElem?_eq_some_iff.1 hx).1
    have h1 : decide (((p + k : Nat) : Int) < (b.length : Int)) = true := by simp; omega
    have h2 : decide ((k : Int) < 6) = true := by simp; omega
    have h3 : idx b ((p + k : Nat) : Int) = some (m : Int) := by rw [idx_nat]; exact hx
    have h4 : wr ((7 * k : Nat) : Int) = ((7 * k : Nat) : Int) := wrap_in (by omega) (by omega)
    have h5 : wr (m : Int) = (m : Int) := wrap_in (by omega) (by omega)
    have h6 : decide (((7 * k : Nat) : Int) < 0) = false := by simp; omega
    have h7 : Int.tmod (m : Int) 128 = ((m % 128 : Nat) : Int) := rfl
    have hq := mul7_le (c := m % 128) hk (Nat.mod_lt _ (by decide))
    have hr := pow7_le hk
    have h8 : wr ((n : Int) + ((m % 128 * 2 ^ (7 * k) : Nat) : Int)) = ((n + m % 128 * 2 ^ (7 * k) : Nat) : Int) := by
      generalize m % 128 * 2 ^ (7 * k) = q at hq
      have : wr ((n : Int) + (q : Int)) = (n : Int) + (q : Int) := wrap_in (by omega) (by omega)
      rw [this]; omega
    have h9 : wr (((p + k : Nat) : Int) + 1) = ((p + k + 1 : Nat) : Int) := by
      have : wr (((p + k : Nat) : Int) + 1) = ((p + k : Nat) : Int) + 1 := wrap_in (by omega) (by omega)
      rw [this]; omega
    have ha : wr ((k : Int) + 1) = ((k + 1 : Nat) : Int) := by
      have : wr ((k : Int) + 1) = (k : Int) + 1 := wrap_in (by omega) (by omega)
      rw [this]; omega
    simp only [h1, h2, h3, cond_true, obind_some, mul_seven, h4, u64_wrap (n := 7 * k) (by omega), h6, cond_false, h5, h7, shl_nat (a := m % 128) (c := 7 * k) (by omega) hq, h8, h9, ha]
    generalize n + m % 128 * 2 ^ (7 * k) = q
    by_cases c1 : m < 128
    · have e1 : decide ((m : Int) < 128) = true := by simp; omega
      have e2 : ((m : Int) == 0) = decide (m = 0) := by rw [Bool.eq_iff_iff]; simp
      have e3 : decide ((k : Int) > 0) = decide (0 < k) := by rw [Bool.eq_iff_iff]; simp
      have e4 : decide ((q : Int) > 1000000000000) = decide (1000000000000 < q) := by rw [Bool.eq_iff_iff]; simp; omega
      simp only [e1, e2, e3, e4, cond_true, if_pos c1]
      cases decide (m = 0) <;> cases decide (0 < k) <;> cases decide (1000000000000 < q) <;> rfl
    · have e1 : decide ((m : Int) < 128) = false := by simp; omega
      simp only [e1, cond_false, if_neg c1]
      rfl

theorem s_rv {b : List Int} {p : Nat} (hb : ∀ x ∈ b, 0 ≤ x ∧ x ≤ 255) (hl : b.length ≤ 68719476736) (hp : p ≤ b.length) : s_ReadVarint b (p : Int) = some (rv b p) := by
  unfold s_ReadVarint
  have e0 : decide ((p : Int) < 0) = false := by simp
  refine rv_loop b p hb (fun k n => ((n : Int), (k : Int))) (fun n => by simp) (fun k n hk hx => ?_) (fun k n m hk hn hm hx => ?_) 6 0 0 rfl (by simp)
  · right
    have hw : wr ((b.length : Int) - (k : Int)) = (b.length : Int) - (k : Int) := wrap_in (by omega) (by omega)
    have h1 : decide ((p : Int) ≥ (b.length : Int) - (k : Int)) = true := by
      have := List.getElem?_eq_none_iff.1 hx
      simp; omega
    have h2 : decide ((k : Int) < 6) = true := by simp; omega
    simp only [h2, e0, hw, h1, cond_true, cond_false, obind_some]
  · have h0 := (List.getElem?_eq_some_iff.1 hx).1
    have hw : wr ((b.length : Int) - (k : Int)) = (b.length : Int) - (k : Int) := wrap_in (by omega) (by omega)
    have h1 : decide ((p : Int) ≥ (b.length : Int) - (k : Int)) = false := by simp; omega
    have h2 : decide ((k : Int) < 6) = true := by simp; omega
    have hpk : wr ((p : Int) + (k : Int)) = ((p + k : Nat) : Int) := by
      have : wr ((p : Int) + (k : Int)) = (p : Int) + (k : Int) := wrap_in (by omega) (by omega)
      rw [this]; omega
    have h3 : idx b ((p + k : Nat) : Int) = some (m : Int) := by rw [idx_nat]; exact hx
    have h4 : wr ((7 * k : Nat) : Int) = ((7 * k : Nat) : Int) := wrap_in (by omega) (by omega)
    have h5 : wr (m : Int) = (m : Int) := wrap_in (by omega) (by omega)
    have h6 : decide (((7 * k : Nat) : Int) < 0) = false := by simp; omega
    have hq := mul7_le (c := m % 128) hk (Nat.mod_lt _ (by decide))
    have h9 : wr (((p + k : Nat) : Int) + 1) = ((p + k + 1 : Nat) : Int) := by
      have : wr (((p + k : Nat) : Int) + 1) = ((p + k : Nat) : Int) + 1 := wrap_in (by omega) (by omega)
      rw [this]; omega
    have ha : wr ((k : Int) + 1) = ((k + 1 : Nat) : Int) := by
      have : wr ((k : Int) + 1) = (k : Int) + 1 := wrap_in (by omega) (by omega)
      rw [this]; omega
    simp only [h1, h2, hw, e0, hpk, h3, cond_true, cond_false, obind_some, mul_seven, h4, h6, h5, bAnd_127 (n := m) (by omega), shl_nat (a := m % 128) (c := 7 * k) (by omega) hq, bOr_add (c := m % 128) hk hn (Nat.mod_lt _ (by decide)), h9, ha]
    generalize n + m % 128 * 2 ^ (7 * k) = q
    by_cases c1 : m < 128
    · have e1 : decide ((m : Int) < 128) = true := by simp; omega
      have e2 : ((m : Int) == 0) = decide (m = 0) := by rw [Bool.eq_iff_iff]; simp
      have e3 : decide ((k : Int) > 0) = decide (0 < k) := by rw [Bool.eq_iff_iff]; simp
      have e4 : decide ((q : Int) > 1000000000000) = decide (1000000000000 < q) := by rw [Bool.eq_iff_iff]; simp; omega
      simp only [e1, e2, e3, e4, cond_true, if_pos c1]
      cases decide (m = 0) <;> cases decide (0 < k) <;> cases decide (1000000000000 < q) <;> rfl
    · have e1 : decide ((m : Int) < 128) = false := by simp; omega
      simp only [e1, cond_false, if_neg c1]

theorem rvGo_to {b : List Int} {p : Nat} : ∀ (f k n : Nat), (rvGo b p f k n).2.2 = true → ∃ q : Nat, (rvGo b p f k n).2.1 = (q : Int) ∧ q ≤ b.length
  | 0, k, n, h => by cases h
  | f + 1, k, n, h => by
    unfold rvGo at h ⊢
    cases hx : b[p + k]? with
    | none => rw [hx] at h; cases h
    | some x =>
      rw [hx] at h
      have hlt := (List.getElem?_eq_some_iff.1 hx).1
      simp only at h ⊢
      by_cases c : x.toNat < 128
      · rw [if_pos c] at h ⊢
        split at h
        · cases h
        · rename_i c2
          rw [if_neg c2]
          exact ⟨p + k + 1, rfl, hlt⟩
      · rw [if_neg c] at h ⊢
        exact rvGo_to f (k + 1) _ h

theorem rv_to {b : List Int} {p : Nat} (h : (rv b p).2.2 = true) : ∃ q : Nat, (rv b p).2.1 = (q : Int) ∧ q ≤ b.length := rvGo_to 6 0 0 h

def dec3 (b : List Int) : Int × Bool × List Int :=
  cond (rv b 0).2.2 (cond (rv b (rv b 0).2.1.toNat).2.2 (cond (rv b (rv b (rv b 0).2.1.toNat).2.1.toNat).2.2
    ((rv b (rv b (rv b 0).2.1.toNat).2.1.toNat).2.1, true, [(rv b 0).1, (rv b (rv b 0).2.1.toNat).1, (rv b (rv b (rv b 0).2.1.toNat).2.1.toNat).1]) (0, false, [])) (0, false, [])) (0, false, [])

theorem dec3_or (b : List Int) : dec3 b = (0, false, []) ∨ ∃ q x y z, dec3 b = (q, true, [x, y, z]) := by
  unfold dec3
  cases (rv b 0).2.2
  · exact .inl rfl
  · cases (rv b (rv b 0).2.1.toNat).2.2
    · exact .inl rfl
    · cases (rv b (rv b (rv b 0).2.1.toNat).2.1.toNat).2.2
      · exact .inl rfl
      · exact .inr ⟨_, _, _, _, rfl⟩

theorem dec_loop {b : List Int} {step : Int × Int × List Int → Option ((Int × Int × List Int) ⊕ ((Int × List Int) ⊕ (Int × Bool × List Int)))}
    (hs : ∀ (p : Nat) (i : Nat) (out : List Int), p ≤ b.length → i < 3 → out.length ≤ 3 → step ((p : Int), (i : Int), out) = some (cond (rv b p).2.2 (.inl ((rv b p).2.1, ((i + 1 : Nat) : Int), out ++ [(rv b p).1])) (.inr (.inr (0, false, [])))))
    (he : ∀ p out, step (p, 3, out) = some (.inr (.inl (p, out)))) :
    @Option.bind ((Int × List Int) ⊕ (Int × Bool × List Int)) (Int × Bool × List Int) (loopM step ((0 : Int), (0 : Int), ([] : List Int))) (fun z => Sum.elim (fun s8 => some (s8.1, true, s8.2)) some z) = some (dec3 b) := by
  have h1 := hs 0 0 [] (Nat.zero_le _) (by decide) (by decide)
  unfold dec3
  cases c1 : (rv b 0).2.2 with
  | false => rw [c1] at h1; rw [loopM_done (s := ((0 : Int), (0 : Int), ([] : List Int))) h1]; rfl
  | true =>
    rw [c1] at h1
    obtain ⟨q1, e1, l1⟩ := rv_to c1
    rw [loopM_next (s := ((0 : Int), (0 : Int), ([] : List Int))) h1]
    rw [e1]
    simp only [cond_true, Int.toNat_natCast]
    have h2 := hs q1 (0 + 1) ([] ++ [(rv b 0).1]) l1 (by decide) (by simp)
    cases c2 : (rv b q1).2.2 with
    | false => rw [c2] at h2; rw [loopM_done h2]; rfl
    | true =>
      rw [c2] at h2
      obtain ⟨q2, e2, l2⟩ := rv_to c2
      rw [loopM_next h2]
      rw [e2]
      simp only [cond_true, Int.toNat_natCast]
      have h3 := hs q2 (0 + 1 + 1) ([] ++ [(rv b 0).1] ++ [(rv b q1).1]) l2 (by decide) (by simp)
      cases c3 : (rv b q2).2.2 with
      | false => rw [c3] at h3; rw [loopM_done h3]; rfl
      | true =>
        rw [c3] at h3
        rw [loopM_next h3]
        rw [loopM_done (s := ((rv b q2).2.1, ((0 + 1 + 1 + 1 : Nat) : Int), [] ++ [(rv b 0).1] ++ [(rv b q1).1] ++ [(rv b q2).1])) (he _ _)]
        rfl

theorem i_dec3 {b : List Int} (hb : ∀ x ∈ b, 0 ≤ x ∧ x ≤ 255) (hl : b.length ≤ 68719476736) : i_DecodeInts b 0 3 = some (dec3 b) := by
  unfold i_DecodeInts
  have r1 : inR 3 0 100 = true := by decide
  have r2 : inR 0 0 (b.length : Int) = true := by rw [inR_iff]; omega
  simp only [i_in, obind_some, r1, r2, Bool.not_true, cond_false]
  refine dec_loop (fun p i out hp hi ho => ?_) (fun p out => by simp)
  have e1 : decide ((i : Int) < 3) = true := by simp; omega
  have e2 : wr ((i : Int) + 1) = ((i + 1 : Nat) : Int) := by
    have : wr ((i : Int) + 1) = (i : Int) + 1 := wrap_in (by omega) (by omega)
    rw [this]; omega
  simp only [e1, cond_true, i_rv hb hl hp, obind_some, e2, apOk_le (b := 8) (n := out.length) (m := 1) (by decide) (by omega)]
  cases (rv b p).2.2 <;> rfl

theorem s_dec3 {b : List Int} (hb : ∀ x ∈ b, 0 ≤ x ∧ x ≤ 255) (hl : b.length ≤ 68719476736) : s_DecodeInts b 0 3 = some (dec3 b) := by
  unfold s_DecodeInts
  have r1 : inR 3 0 100 = true := by decide
  have r2 : inR 0 0 (b.length : Int) = true := by rw [inR_iff]; omega
  simp only [s_in, obind_some, r1, r2, Bool.not_true, cond_false]
  refine dec_loop (fun p i out hp hi ho => ?_) (fun p out => by simp)
  have e1 : decide ((i : Int) < 3) = true := by simp; omega
  have e2 : wr ((i : Int) + 1) = ((i + 1 : Nat) : Int) := by
    have : wr ((i : Int) + 1) = (i : Int) + 1 := wrap_in (by omega) (by omega)
    rw [this]; omega
  simp only [e1, cond_true, s_rv hb hl hp, obind_some, e2, apOk_le (b := 8) (n := out.length) (m := 1) (by decide) (by omega)]
  cases (rv b p).2.2 <;> rfl

/-- A revocation read; whether there is one. -/
def decV (b : List Int) : Int × Int × Int × Bool :=
  match dec3 b with
  | (q, true, [x, y, z]) => cond (q == (b.length : Int)) (cond (validV (x, y, z)) (x, y, z, true) (0, 0, 0, false)) (0, 0, 0, false)
  | _ => (0, 0, 0, false)

theorem i_decV {b : List Int} (hb : ∀ x ∈ b, 0 ≤ x ∧ x ≤ 255) (hl : b.length ≤ 68719476736) : i_DecodeRevocation b = some (decV b) := by
  unfold i_DecodeRevocation decV
  rw [i_dec3 hb hl]
  rcases dec3_or b with h | ⟨q, x, y, z, h⟩
  · rw [h]; rfl
  · rw [h]
    simp only [obind_some, Bool.not_true, cond_false, bne, i_validV]
    cases q == (b.length : Int)
    · rfl
    · cases hv : validV (x, y, z) <;> simp [hv]

theorem s_decV {b : List Int} (hb : ∀ x ∈ b, 0 ≤ x ∧ x ≤ 255) (hl : b.length ≤ 68719476736) : s_DecodeRevocation b = some (decV b) := by
  unfold s_DecodeRevocation decV
  rw [s_dec3 hb hl]
  rcases dec3_or b with h | ⟨q, x, y, z, h⟩
  · rw [h]; rfl
  · rw [h]
    simp only [obind_some, Bool.not_true, cond_false, bne, s_validV]
    cases q == (b.length : Int)
    · rfl
    · cases hv : validV (x, y, z) <;> simp [hv]

def addAt (x : den tRevocation) (l : List (den tRevocation)) (k : Nat) (y : den tRevocation) : Option (List (den tRevocation)) :=
  cond (y.1 == x.1) (cond (y.2.1 == x.2.1) (some (l.set k (y.1, y.2.1, if x.2.2 > y.2.2 then x.2.2 else y.2.2))) none) none

def addV (l : List (den tRevocation)) (x : den tRevocation) : List (den tRevocation) :=
  cond (validV x) (match scanI (addAt x l) 0 l with
    | some r => r
    | none => if 16 < l.length + 1 then (l ++ [x]).drop 1 else l ++ [x]) l

theorem cut_one {α : Type} {l : List α} (h : 0 < l.length) : cut l (1 : Int) (l.length : Int) = l.drop 1 := cut_drop (k := 1) h

theorem addV_big (l : List (den tRevocation)) (x : den tRevocation) : decide (((l ++ [x]).length : Int) > 16) = decide (16 < l.length + 1) := by
  rw [Bool.eq_iff_iff]; simp; omega

theorem i_addV {l : List (den tRevocation)} {x : den tRevocation} (h : l.length ≤ 1048576) : i_AddRevocation l x = some (addV l x) := by
  unfold i_AddRevocation addV
  rw [i_copyV (show l.length ≤ 68719476736 by omega)]
  simp only [obind_some, peta, i_validV]
  cases hv : validV x with
  | false => rfl
  | true =>
    simp only [Bool.not_true, cond_false, cond_true]
    rw [loop_scan (l := l) (addAt x l) (by omega) (fun k y hi hd hw hm hk => by
      have hy : l[k]? = some y := by rw [← idx_nat]; exact hi
      simp only [hd, cond_true, pos_nat, Int.toNat_natCast, hy, obind_some, i_max, hw]
      unfold addAt
      cases y.1 == x.1
      · rfl
      · cases y.2.1 == x.2.1 <;> rfl) (by simp)]
    cases scanI (addAt x l) 0 l with
    | some r => rfl
    | none =>
      have e1 : slOk (1 : Int) ((l ++ [x]).length : Int) ((l ++ [x]).length : Int) = true := by
        have := slOk_nat (a := 1) (b := (l ++ [x]).length) (n := (l ++ [x]).length)
        rw [show ((1 : Nat) : Int) = 1 from rfl] at this
        rw [this]; simp
      have e2 := cut_one (l := l ++ [x]) (by simp)
      simp only [obind_some, Sum.elim_inl, apOk_le (b := 24) (n := l.length) (m := 1) (by decide) (by omega), cond_true, addV_big, e1, e2, i_copyV (l := (l ++ [x]).drop 1) (by simp; omega)]
      by_cases c : 16 < l.length + 1
      · have c2 : (16 : Int) < (l.length : Int) + 1 := by omega
        simp [c, c2]
      · have c2 : ¬ (16 : Int) < (l.length : Int) + 1 := by omega
        simp [c, c2]

theorem s_addV {l : List (den tRevocation)} {x : den tRevocation} (h : l.length ≤ 1048576) : s_AddRevocation l x = some (addV l x) := by
  unfold s_AddRevocation addV
  rw [apOk_le (b := 24) (n := ([] : List (den tRevocation)).length) (by decide) (by simp; omega)]
  simp only [cond_true, obind_some, peta, s_validV, List.nil_append]
  cases hv : validV x with
  | false => rfl
  | true =>
    simp only [Bool.not_true, cond_false, cond_true]
    rw [loop_scan (l := l) (addAt x l) (by omega) (fun k y hi hd hw hm hk => by
      have hy : l[k]? = some y := by rw [← idx_nat]; exact hi
      have hk2 : decide (k < l.length) = true := by simpa using hk
      simp only [hd, cond_true, pos_nat, Int.toNat_natCast, hy, obind_some, s_max, hw, hk2]
      unfold addAt
      cases y.1 == x.1
      · rfl
      · cases y.2.1 == x.2.1 <;> rfl) (by simp)]
    cases scanI (addAt x l) 0 l with
    | some r => rfl
    | none =>
      have e1 : slOk (1 : Int) ((l ++ [x]).length : Int) ((l ++ [x]).length : Int) = true := by
        have := slOk_nat (a := 1) (b := (l ++ [x]).length) (n := (l ++ [x]).length)
        rw [show ((1 : Nat) : Int) = 1 from rfl] at this
        rw [this]; simp
      have e2 := cut_one (l := l ++ [x]) (by simp)
      simp only [obind_some, Sum.elim_inl, apOk_le (b := 24) (n := l.length) (m := 1) (by decide) (by omega), cond_true, addV_big, e1, e2]
      by_cases c : 16 < l.length + 1
      · have c2 : (16 : Int) < (l.length : Int) + 1 := by omega
        simp [c, c2]
      · have c2 : ¬ (16 : Int) < (l.length : Int) + 1 := by omega
        simp [c, c2]

def numS (s : den tStep) (a : List Int) : List Int :=
  (fun b => cond (s.2.2 != 0) (b ++ [wr (wr (8 * s.1) + s.2.2)]) b) (cond (s.2.1 != 0) (a ++ [wr (wr (8 * s.1) + s.2.1)]) a)

theorem numS_len (s : den tStep) (a : List Int) : (numS s a).length ≤ a.length + 2 := by
  unfold numS
  cases s.2.1 != 0 <;> cases s.2.2 != 0 <;> simp

def usedI (p : den tPath) : List Int := foldI (fun _ s a => numS s a) 0 (steps p) []

theorem sum_two {α : Type} (l : List α) : (l.map fun _ => 2).sum = 2 * l.length := by
  induction l with
  | nil => rfl
  | cons x l ih => simp only [List.map_cons, List.sum_cons, ih, List.length_cons]; omega

theorem i_usedI {p : den tPath} (h : tot tPath p ≤ 1048576) : i_InterfacesUsed p = some (usedI p) := by
  have hl := steps_len p
  unfold i_InterfacesUsed i_numbered usedI
  rw [i_steps (Nat.le_trans h (by decide))]
  simp only [obind_some]
  rw [loopG (fun k (a : List Int) => ((k : Int), a)) ((0 : Int), []) [] (steps p) (fun _ s a => numS s a) List.length (fun _ => 2) 68719476736 id rfl (by omega) (by rw [sum_two]; simp; omega) (fun k x a => numS_len x a) (fun k x a hi hx hd hw hk hb => by
    simp only [hd, hi, hw, cond_true, obind_some, apOk_le (b := 8) (n := a.length) (m := 1) (by decide) (by omega)]
    unfold numS
    cases x.2.1 != 0 <;> cases x.2.2 != 0 <;> simp [apOk_le (b := 8) (n := a.length) (m := 1) (by decide) (by omega), apOk_le (b := 8) (n := a.length + 1) (m := 1) (by decide) (by omega)]) (fun a => by simp)]
  rfl

theorem s_usedI {p : den tPath} (h : tot tPath p ≤ 1048576) : s_InterfacesUsed p = some (usedI p) := by
  have hl := steps_len p
  unfold s_InterfacesUsed usedI
  rw [s_steps (Nat.le_trans h (by decide))]
  simp only [obind_some]
  rw [loopG (fun k (a : List Int) => ((k : Int), a)) ((0 : Int), []) [] (steps p) (fun _ s a => numS s a) List.length (fun _ => 2) 68719476736 id rfl (by omega) (by rw [sum_two]; simp; omega) (fun k x a => numS_len x a) (fun k x a hi hx hd hw hk hb => by
    simp only [hd, hx, hw, cond_true, obind_some, pos_nat, Int.toNat_natCast, apOk_le (b := 8) (n := a.length) (m := 1) (by decide) (by omega)]
    unfold numS
    cases x.2.1 != 0 <;> cases x.2.2 != 0 <;> simp [apOk_le (b := 8) (n := a.length) (m := 1) (by decide) (by omega), apOk_le (b := 8) (n := a.length + 1) (m := 1) (by decide) (by omega)]) (fun a => by simp)]
  rfl

def hasI (l : List Int) (n : Int) : Bool := !(l.all fun x => !(x == n))

theorem i_hasI {l : List Int} {n : Int} (h : l.length ≤ 68719476736) : i_hasInt l n = some (hasI l n) := by
  unfold i_hasInt hasI
  rw [loop_scan (l := l) (fun _ x => if !(x == n) then none else some true) (by omega) (fun k x hi hd hw hm hk => by
    simp only [hd, hi, hw, cond_true, obind_some]
    cases x == n <;> rfl) (by simp), scanA (fun x : Int => !(x == n))]
  cases l.all (fun x => !(x == n)) <;> rfl

theorem s_hasI {l : List Int} {n : Int} (h : l.length ≤ 68719476736) : s_l9Has l n = some (hasI l n) := by
  unfold s_l9Has hasI
  rw [loop_scan (l := l) (fun _ x => if !(x == n) then none else some true) (by omega) (fun k x hi hd hw hm hk => by
    simp only [hd, hi, hw, cond_true, obind_some]
    cases x == n <;> rfl) (by simp), scanA (fun x : Int => !(x == n))]
  cases l.all (fun x => !(x == n)) <;> rfl

theorem usedI_len (p : den tPath) : (usedI p).length ≤ 2 * tot tPath p := by
  have h := foldI_m (f := fun _ s (a : List Int) => numS s a) (m := List.length) (cost := fun _ => 2) (fun k x a => numS_len x a) (steps p) 0 []
  have hl := steps_len p
  rw [sum_two] at h
  unfold usedI
  simp at h
  omega

def affects (p : den tPath) (x : den tRevocation) : Bool := validV x && hasI (usedI p) (wr (wr (8 * x.1) + x.2.1))

theorem i_affects {p : den tPath} {x : den tRevocation} (h : tot tPath p ≤ 1048576) : i_Affects p x = some (affects p x) := by
  have := usedI_len p
  unfold i_Affects affects
  simp only [peta, i_validV, obind_some, i_usedI h, i_hasI (l := usedI p) (by omega)]
  cases validV x <;> rfl

theorem s_affects {p : den tPath} {x : den tRevocation} (h : tot tPath p ≤ 1048576) : s_Affects p x = some (affects p x) := by
  have := usedI_len p
  unfold s_Affects affects
  simp only [peta, s_validV, obind_some, s_usedI h, s_hasI (l := usedI p) (by omega)]
  cases validV x <;> rfl

theorem scanI_sum {α R : Type} (m : R → Nat) (B : Nat) {g : Nat → α → Option R} : ∀ {l : List α} {k : Nat}, (∀ j x r, l[j]? = some x → g (k + j) x = some r → m r ≤ B) → ∀ r, scanI g k l = some r → m r ≤ B
  | [], _, _, r, h => by cases h
  | x :: xs, k, hg, r, h => by
    simp only [scanI] at h
    cases hx : g k x with
    | some r' => rw [hx] at h; injection h with h; subst h; exact hg 0 x r' rfl hx
    | none =>
      rw [hx] at h
      exact scanI_sum m B (fun j y r hy hr => hg (j + 1) y r (by simpa using hy) (by rw [show k + (j + 1) = k + 1 + j by omega]; exact hr)) r h

theorem tot_rv (l : List (den tRevocation)) : tot (.sl tRevocation) l = l.length := by
  induction l with
  | nil => rfl
  | cons x l ih => rw [tot_cons, ih]; simp [tot]; omega

theorem addV_tot (l : List (den tRevocation)) (x : den tRevocation) : tot (.sl tRevocation) (addV l x) ≤ l.length + 1 := by
  rw [tot_rv]
  unfold addV
  cases validV x with
  | false => simp
  | true =>
    simp only [cond_true]
    cases hs : scanI (addAt x l) 0 l with
    | some r =>
      refine scanI_sum List.length (l.length + 1) (g := addAt x l) (l := l) (k := 0) (fun j y r' hy hr => ?_) r hs
      unfold addAt at hr
      cases c1 : y.1 == x.1 with
      | false => rw [c1] at hr; cases hr
      | true =>
        cases c2 : y.2.1 == x.2.1 with
        | false => rw [c1, c2] at hr; cases hr
        | true => rw [c1, c2] at hr; injection hr with hr; rw [← hr]; simp
    | none =>
      by_cases c : 16 < l.length + 1
      · simp [c]
      · simp [c]

def hitR (f : den tFlow) (x : den tRevocation) : Bool := inR f.2.2.2.2.2.2.1 0 ((f.2.2.2.2.2.1.length : Int) - 1) && affects ((f.2.2.2.2.2.1[f.2.2.2.2.2.2.1.toNat]?).getD []) x

def readV (b : List Int) : den tRevocation := ((decV b).1, (decV b).2.1, (decV b).2.2.1)

def handR (f : den tFlow) (p : den tPacket) : den tFlow :=
  cond (p.1 == 3 && (decV p.2.2.2.2.2.2.2.2.2).2.2.2)
    (f.1, f.2.1, f.2.2.1, f.2.2.2.1, f.2.2.2.2.1, f.2.2.2.2.2.1, cond (hitR f (readV p.2.2.2.2.2.2.2.2.2)) (nextP f) f.2.2.2.2.2.2.1, cond (hitR f (readV p.2.2.2.2.2.2.2.2.2)) 0 f.2.2.2.2.2.2.2.1, addV f.2.2.2.2.2.2.2.2 (readV p.2.2.2.2.2.2.2.2.2)) f

/-- As the reference hands it back: the revocations ahead of the other slices. -/
def flowV (f : den tFlow) : Int × Int × Int × Int × Int × Int × (List (den tRevocation)) × (List (den tMessage)) × (List (den tPath)) := (f.1, f.2.1, f.2.2.1, f.2.2.2.1, f.2.2.2.2.2.2.1, f.2.2.2.2.2.2.2.1, f.2.2.2.2.2.2.2.2, f.2.2.2.2.1, f.2.2.2.2.2.1)

theorem path_at {f : den tFlow} (h : tot tFlow f ≤ 1048576) (hr : inR f.2.2.2.2.2.2.1 0 ((f.2.2.2.2.2.1.length : Int) - 1) = true) : ∃ q, f.2.2.2.2.2.1[f.2.2.2.2.2.2.1.toNat]? = some q ∧ idx f.2.2.2.2.2.1 f.2.2.2.2.2.2.1 = some q ∧ tot tPath q ≤ 1048576 := by
  obtain ⟨h0, h1⟩ := inR_iff.1 hr
  obtain ⟨q, hq⟩ := get_some h0 h1
  have ht := tot_get (t := tPath) hq
  have hp : tot (.sl tPath) f.2.2.2.2.2.1 ≤ 1048576 := tot_l (tot_r (tot_r (tot_r (tot_r (tot_r h)))))
  exact ⟨q, hq, idx_of h0 hq, by omega⟩

theorem i_handR {f : den tFlow} {p : den tPacket} {now : Int} (h : tot tFlow f ≤ 1048576) (hp : tot tPacket p ≤ 1048576) (hb : ∀ x ∈ p.2.2.2.2.2.2.2.2.2, 0 ≤ x ∧ x ≤ 255) : i_HandleRevocation f p now = some (flowR (handR f p)) := by
  have hf : SmB 68719476736 tFlow f := (sm_of_tot h).mono (by decide)
  have hl : p.2.2.2.2.2.2.2.2.2.length ≤ 68719476736 := Nat.le_trans (tot_len (t := tb) _) (Nat.le_trans (tot_r (tot_r (tot_r (tot_r (tot_r (tot_r (tot_r (tot_r (tot_r hp))))))))) (by decide))
  have hv : f.2.2.2.2.2.2.2.2.length ≤ 1048576 := Nat.le_trans (tot_len (t := tRevocation) _) (tot_r (tot_r (tot_r (tot_r (tot_r (tot_r (tot_r (tot_r h))))))))
  have hn : f.2.2.2.2.2.1.length ≤ 68719476736 := hf.2.2.2.2.2.1.1
  unfold i_HandleRevocation handR
  simp only [peta, i_copyF hf, obind_some, i_decV hb hl, i_in, wr_len hn, i_nextP, i_addV hv, bne]
  cases c1 : p.1 == 3
  · simp only [Bool.not_false, cond_true, obind_some, Bool.false_and, cond_false]
  · cases c2 : (decV p.2.2.2.2.2.2.2.2.2).2.2.2
    · simp only [Bool.not_true, Bool.not_false, cond_true, cond_false, obind_some, Bool.true_and]
    · simp only [Bool.not_true, cond_true, cond_false, obind_some, Bool.true_and]
      unfold hitR
      cases c3 : inR f.2.2.2.2.2.2.1 0 ((f.2.2.2.2.2.1.length : Int) - 1)
      · simp only [cond_false, obind_some, Bool.false_and]; rfl
      · obtain ⟨q, hq, hi, ht⟩ := path_at h c3
        have ha := i_affects (p := q) (x := readV p.2.2.2.2.2.2.2.2.2) ht
        have ha : i_Affects q ((decV p.2.2.2.2.2.2.2.2.2).1, (decV p.2.2.2.2.2.2.2.2.2).2.1, (decV p.2.2.2.2.2.2.2.2.2).2.2.1) = some (affects q (readV p.2.2.2.2.2.2.2.2.2)) := ha
        simp only [cond_true, hi, hq, Option.getD_some, obind_some, ha, Bool.true_and]
        cases affects q (readV p.2.2.2.2.2.2.2.2.2) <;> rfl

theorem s_handR {f : den tFlow} {p : den tPacket} {now : Int} (h : tot tFlow f ≤ 1048576) (hp : tot tPacket p ≤ 1048576) (hb : ∀ x ∈ p.2.2.2.2.2.2.2.2.2, 0 ≤ x ∧ x ≤ 255) : s_HandleRevocation f p now = some (flowV (handR f p)) := by
  have hf : SmB 68719476736 tFlow f := (sm_of_tot h).mono (by decide)
  have hl : p.2.2.2.2.2.2.2.2.2.length ≤ 68719476736 := Nat.le_trans (tot_len (t := tb) _) (Nat.le_trans (tot_r (tot_r (tot_r (tot_r (tot_r (tot_r (tot_r (tot_r (tot_r hp))))))))) (by decide))
  have hv : f.2.2.2.2.2.2.2.2.length ≤ 1048576 := Nat.le_trans (tot_len (t := tRevocation) _) (tot_r (tot_r (tot_r (tot_r (tot_r (tot_r (tot_r (tot_r h))))))))
  have hn : f.2.2.2.2.2.1.length ≤ 68719476736 := hf.2.2.2.2.2.1.1
  unfold s_HandleRevocation handR
  simp only [peta, s_copyF hf, obind_some, s_decV hb hl, s_in, wr_len hn, s_addV hv, bne]
  cases c1 : p.1 == 3
  · simp only [Bool.not_false, cond_true, obind_some, Bool.false_and, cond_false]; rfl
  · cases c2 : (decV p.2.2.2.2.2.2.2.2.2).2.2.2
    · simp only [Bool.not_true, Bool.not_false, cond_true, cond_false, obind_some, Bool.true_and]; rfl
    · simp only [Bool.not_true, cond_true, cond_false, obind_some, Bool.true_and]
      unfold hitR
      cases c3 : inR f.2.2.2.2.2.2.1 0 ((f.2.2.2.2.2.1.length : Int) - 1)
      · simp only [cond_false, obind_some, Bool.false_and]; rfl
      · obtain ⟨q, hq, hi, ht⟩ := path_at h c3
        have ha := s_affects (p := q) (x := readV p.2.2.2.2.2.2.2.2.2) ht
        have ha : s_Affects q ((decV p.2.2.2.2.2.2.2.2.2).1, (decV p.2.2.2.2.2.2.2.2.2).2.1, (decV p.2.2.2.2.2.2.2.2.2).2.2.1) = some (affects q (readV p.2.2.2.2.2.2.2.2.2)) := ha
        simp only [cond_true, hi, hq, Option.getD_some, obind_some, ha, Bool.true_and, s_turn hf c3]
        cases affects q (readV p.2.2.2.2.2.2.2.2.2) <;> rfl

theorem handR_tot (f : den tFlow) (p : den tPacket) : tot tFlow (handR f p) ≤ tot tFlow f + 1 := by
  unfold handR
  cases (p.1 == 3 && (decV p.2.2.2.2.2.2.2.2.2).2.2.2)
  · simp
  · have h1 := addV_tot f.2.2.2.2.2.2.2.2 (readV p.2.2.2.2.2.2.2.2.2)
    have h2 := tot_rv f.2.2.2.2.2.2.2.2
    simp only [cond_true, tot_pair, tot_int]
    omega

end Go.Proofs.Ytmnjhbhppkploaa
