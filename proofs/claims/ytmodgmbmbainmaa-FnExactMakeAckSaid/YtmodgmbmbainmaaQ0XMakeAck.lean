/-
  Facts and plain laws: what the functions compute, in plain words. Conditions: as each says.
-/
import Derived.Test.YtmodgmbmbainmaaT0XMakeAck
set_option linter.unusedVariables false
set_option linter.unusedSimpArgs false
set_option maxRecDepth 100000
namespace Go.Proofs.Ytmodgmbmbainmaa
open Go.Ab Go.V
theorem sz_ByteS {l : den (.sl tb)} {left : Int} (w : Wf (.sl tb) l) (h0 : 0 ≤ left) (h1 : left ≤ 1048576) : SzT (l_szByteS l left) left (tot (.sl tb) l) := szF_ok (t := tb) rfl w.1 h0 h1

theorem sz_Message {x : den tMessage} {left : Int} (w : Wf tMessage x) (h0 : 0 ≤ left) (h1 : left ≤ 1048576) : SzT (l_szMessage x left) left (tot tMessage x) := SzT.eq (sz_field (sz_ByteS w h0 h1) h1 fun r0 a0 b0 => sz_done a0) (by simp [tot, tot_flat])

theorem sz_MessageS {l : den (.sl tMessage)} {left : Int} (w : Wf (.sl tMessage) l) (h0 : 0 ≤ left) (h1 : left ≤ 1048576) : SzT (l_szMessageS l left) left (tot (.sl tMessage) l) := szL_ok (t := tMessage) (szE := l_szMessage) w.1 h0 h1 fun x hx k k0 k1 => sz_Message (w.2 x hx) k0 k1

theorem sz_Inbox {x : den tInbox} {left : Int} (w : Wf tInbox x) (h0 : 0 ≤ left) (h1 : left ≤ 1048576) : SzT (l_szInbox x left) left (tot tInbox x) := SzT.eq (sz_field (sz_MessageS w.2.2.2 h0 h1) h1 fun r0 a0 b0 => sz_done a0) (by simp [tot, tot_flat])

theorem sz_HopS {l : den (.sl tHop)} {left : Int} (w : Wf (.sl tHop) l) (h0 : 0 ≤ left) (h1 : left ≤ 1048576) : SzT (l_szHopS l left) left (tot (.sl tHop) l) := szF_ok (t := tHop) rfl w.1 h0 h1

theorem sz_PathPart {x : den tPathPart} {left : Int} (w : Wf tPathPart x) (h0 : 0 ≤ left) (h1 : left ≤ 1048576) : SzT (l_szPathPart x left) left (tot tPathPart x) := SzT.eq (sz_field (sz_HopS w.2.2.2 h0 h1) h1 fun r0 a0 b0 => sz_done a0) (by simp [tot, tot_flat])

theorem sz_PathPartS {l : den (.sl tPathPart)} {left : Int} (w : Wf (.sl tPathPart) l) (h0 : 0 ≤ left) (h1 : left ≤ 1048576) : SzT (l_szPathPartS l left) left (tot (.sl tPathPart) l) := szL_ok (t := tPathPart) (szE := l_szPathPart) w.1 h0 h1 fun x hx k k0 k1 => sz_PathPart (w.2 x hx) k0 k1

theorem sz_Path {x : den tPath} {left : Int} (w : Wf tPath x) (h0 : 0 ≤ left) (h1 : left ≤ 1048576) : SzT (l_szPath x left) left (tot tPath x) := SzT.eq (sz_field (sz_PathPartS w h0 h1) h1 fun r0 a0 b0 => sz_done a0) (by simp [tot, tot_flat])

theorem sz_Packet {x : den tPacket} {left : Int} (w : Wf tPacket x) (h0 : 0 ≤ left) (h1 : left ≤ 1048576) : SzT (l_szPacket x left) left (tot tPacket x) := SzT.eq (sz_field (sz_Path w.2.2.2.1 h0 h1) h1 fun r0 a0 b0 => sz_field (sz_ByteS w.2.2.2.2.2.2.2.2.2 a0 b0) b0 fun r1 a1 b1 => sz_done a1) (by simp [tot, tot_flat] <;> omega)

theorem to_ByteS {l : den (.sl tb)} (h : Sm (.sl tb) l) : l_toByteS l = some l := by
  have : l_toByteS l = some (l.map id) := toL_eq (toE := some) (g := id) h.1 (by decide) fun x hx => rfl
  simpa using this

theorem to_Message {x : den tMessage} (h : Sm tMessage x) : l_toMessage x = some x := by
  unfold l_toMessage
  simp [to_ByteS h]

theorem to_MessageS {l : den (.sl tMessage)} (h : Sm (.sl tMessage) l) : l_toMessageS l = some l := by
  have : l_toMessageS l = some (l.map id) := toL_eq (toE := l_toMessage) (g := id) h.1 (by decide) fun x hx => to_Message (h.2 x hx)
  simpa using this

theorem to_Inbox {x : den tInbox} (h : Sm tInbox x) : l_toInbox x = some x := by
  unfold l_toInbox
  simp [to_MessageS h.2.2.2]

theorem to_Hop {x : den tHop} (h : Sm tHop x) : l_toHop x = some x := by
  unfold l_toHop
  rfl

theorem to_HopS {l : den (.sl tHop)} (h : Sm (.sl tHop) l) : l_toHopS l = some l := by
  have : l_toHopS l = some (l.map id) := toL_eq (toE := l_toHop) (g := id) h.1 (by decide) fun x hx => to_Hop (h.2 x hx)
  simpa using this

theorem to_PathPart {x : den tPathPart} (h : Sm tPathPart x) : l_toPathPart x = some x := by
  unfold l_toPathPart
  simp [to_HopS h.2.2.2]

theorem to_PathPartS {l : den (.sl tPathPart)} (h : Sm (.sl tPathPart) l) : l_toPathPartS l = some l := by
  have : l_toPathPartS l = some (l.map id) := toL_eq (toE := l_toPathPart) (g := id) h.1 (by decide) fun x hx => to_PathPart (h.2 x hx)
  simpa using this

theorem to_Path {x : den tPath} (h : Sm tPath x) : l_toPath x = some x := by
  unfold l_toPath
  simp [to_PathPartS h]

theorem to_Packet {x : den tPacket} (h : Sm tPacket x) : l_toPacket x = some (x.1, x.2.1, x.2.2.1, x.2.2.2.2.1, x.2.2.2.2.2.1, x.2.2.2.2.2.2.1, x.2.2.2.2.2.2.2.1, x.2.2.2.2.2.2.2.2.1, x.2.2.2.1, x.2.2.2.2.2.2.2.2.2) := by
  unfold l_toPacket
  simp only [to_Path h.2.2.2.1, to_ByteS h.2.2.2.2.2.2.2.2.2, obind_some, peta]

theorem eq_Hop {x : den tHop} (h : SmB 4611686018427387904 tHop x) : l_eqHop x x = some true := by
  unfold l_eqHop
  simp

theorem eq_HopS {l : den (.sl tHop)} (h : SmB 4611686018427387904 (.sl tHop) l) : l_eqHopS l l = some true := eqL_refl (eqE := l_eqHop) h.1 fun x hx => eq_Hop (h.2 x hx)

theorem eq_PathPart {x : den tPathPart} (h : SmB 4611686018427387904 tPathPart x) : l_eqPathPart x x = some true := by
  unfold l_eqPathPart
  simp [eq_HopS h.2.2.2]

theorem eq_PathPartS {l : den (.sl tPathPart)} (h : SmB 4611686018427387904 (.sl tPathPart) l) : l_eqPathPartS l l = some true := eqL_refl (eqE := l_eqPathPart) h.1 fun x hx => eq_PathPart (h.2 x hx)

theorem eq_Path {x : den tPath} (h : SmB 4611686018427387904 tPath x) : l_eqPath x x = some true := by
  unfold l_eqPath
  simp [eq_PathPartS h]

theorem eq_ByteS {l : den (.sl tb)} (h : SmB 4611686018427387904 (.sl tb) l) : l_eqByteS l l = some true := eqL_refl (eqE := (fun x y => some (x == y))) h.1 fun x hx => by simp

theorem eq_Packet {x : den tPacket} (h : SmB 4611686018427387904 tPacket x) : l_eqPacket x x = some true := by
  unfold l_eqPacket
  simp [eq_Path h.2.2.2.1, eq_ByteS h.2.2.2.2.2.2.2.2.2]

theorem eq_Message {x : den tMessage} (h : SmB 4611686018427387904 tMessage x) : l_eqMessage x x = some true := by
  unfold l_eqMessage
  simp [eq_ByteS h]

theorem eq_MessageS {l : den (.sl tMessage)} (h : SmB 4611686018427387904 (.sl tMessage) l) : l_eqMessageS l l = some true := eqL_refl (eqE := l_eqMessage) h.1 fun x hx => eq_Message (h.2 x hx)

theorem eq_Inbox {x : den tInbox} (h : SmB 4611686018427387904 tInbox x) : l_eqInbox x x = some true := by
  unfold l_eqInbox
  simp [eq_MessageS h.2.2.2]

theorem mark_ByteS {l : den (.sl tb)} {k : Int} (h : SmB 4611686018427387904 (.sl tb) l) (hk : 0 ≤ k) (hb : k + ((lv (.sl tb) l : Nat) : Int) ≤ 4611686018427387904) : l_markByteS l k = some (k + ((lv (.sl tb) l : Nat) : Int), mkT (.sl tb) l k) := by
  have hc := cntAll_sum (lv tb) l
  have hc : k + ((cntAll (lv tb) l : Nat) : Int) = k + ((lv (.sl tb) l : Nat) : Int) := by rw [hc]; rfl
  unfold l_markByteS
  rw [mark0 (cE := lv tb) (mE := mkT tb) (SmB 4611686018427387904 tb) (fun k i L x hx hi hN hk hb hp => by
      have hd : decide ((i : Int) < (L.length : Int)) = true := by simpa using hi
      have hd0 : decide ((0 : Int) ≤ (i : Int)) = true := by simp
      have hw : IntKind.i64.wrap ((i : Int) + 1) = ((i + 1 : Nat) : Int) := by rw [wrap_in (by omega) (by omega)]; omega
      have hl : k + ((lv tb x : Nat) : Int) = k + 1 := by simp only [lv] <;> omega
      rw [hl] at hb
      rw [hl]
      have hE : mkT tb x k = IntKind.u8.wrap (k) := by first | rfl | (simp [mkT, lv]; try omega)
      have f0 : IntKind.i64.wrap (k + 1) = k + 1 := wrap_in (by omega) (by omega)
      rw [hE]
      simp only [hd, hd0, hw, cond_true, Int.toNat_natCast, hx, obind_some, List.length_set, List.getElem?_set_self hi, List.set_set, f0]) (fun k L => by simp) h.1 h.2 hk (by rw [hc]; exact hb), hc]
  rfl

theorem mark_MessageS {l : den (.sl tMessage)} {k : Int} (h : SmB 4611686018427387904 (.sl tMessage) l) (hk : 0 ≤ k) (hb : k + ((lv (.sl tMessage) l : Nat) : Int) ≤ 4611686018427387904) : l_markMessageS l k = some (k + ((lv (.sl tMessage) l : Nat) : Int), mkT (.sl tMessage) l k) := by
  have hc := cntAll_sum (lv tMessage) l
  have hc : k + ((cntAll (lv tMessage) l : Nat) : Int) = k + ((lv (.sl tMessage) l : Nat) : Int) := by rw [hc]; rfl
  unfold l_markMessageS
  rw [mark0 (cE := lv tMessage) (mE := mkT tMessage) (SmB 4611686018427387904 tMessage) (fun k i L x hx hi hN hk hb hp => by
      have hd : decide ((i : Int) < (L.length : Int)) = true := by simpa using hi
      have hd0 : decide ((0 : Int) ≤ (i : Int)) = true := by simp
      have hw : IntKind.i64.wrap ((i : Int) + 1) = ((i + 1 : Nat) : Int) := by rw [wrap_in (by omega) (by omega)]; omega
      have hl : k + ((lv tMessage x : Nat) : Int) = k + ((lv (.sl tb) x : Nat) : Int) := by simp only [lv] <;> omega
      rw [hl] at hb
      rw [hl]
      have hE : mkT tMessage x k = mkT (.sl tb) x (k) := by first | rfl | (simp [mkT, lv]; try omega)
      have f0 := mark_ByteS (l := x) (k := k) hp (by omega) (by omega)
      rw [hE]
      simp only [hd, hd0, hw, cond_true, Int.toNat_natCast, hx, obind_some, List.length_set, List.getElem?_set_self hi, List.set_set, f0]) (fun k L => by simp) h.1 h.2 hk (by rw [hc]; exact hb), hc]
  rfl

theorem mark_Inbox {x : den tInbox} {k : Int} (h : SmB 4611686018427387904 tInbox x) (hk : 0 ≤ k) (hb : k + ((lv (.sl tMessage) x.2.2.2 : Nat) : Int) ≤ 4611686018427387904) : l_markInbox x k = some (k + ((lv (.sl tMessage) x.2.2.2 : Nat) : Int), mkT (.sl tMessage) x.2.2.2 (k)) := by
  have q0 := mark_MessageS (l := x.2.2.2) (k := k) h.2.2.2 (by omega) (by omega)
  unfold l_markInbox
  simp only [q0, obind_some, peta]

theorem mark_HopS {l : den (.sl tHop)} {k : Int} (h : SmB 4611686018427387904 (.sl tHop) l) (hk : 0 ≤ k) (hb : k + ((lv (.sl tHop) l : Nat) : Int) ≤ 4611686018427387904) : l_markHopS l k = some (k + ((lv (.sl tHop) l : Nat) : Int), mkT (.sl tHop) l k) := by
  have hc := cntAll_sum (lv tHop) l
  have hc : k + ((cntAll (lv tHop) l : Nat) : Int) = k + ((lv (.sl tHop) l : Nat) : Int) := by rw [hc]; rfl
  unfold l_markHopS
  rw [mark0 (cE := lv tHop) (mE := mkT tHop) (SmB 4611686018427387904 tHop) (fun k i L x hx hi hN hk hb hp => by
      have hd : decide ((i : Int) < (L.length : Int)) = true := by simpa using hi
      have hd0 : decide ((0 : Int) ≤ (i : Int)) = true := by simp
      have hw : IntKind.i64.wrap ((i : Int) + 1) = ((i + 1 : Nat) : Int) := by rw [wrap_in (by omega) (by omega)]; omega
      have hl : k + ((lv tHop x : Nat) : Int) = k + 1 + 1 + 1 + 1 + 1 := by simp only [lv] <;> omega
      rw [hl] at hb
      rw [hl]
      have hE : mkT tHop x k = (k, k + 1, k + 1 + 1, k + 1 + 1 + 1, k + 1 + 1 + 1 + 1) := by first | rfl | (simp [mkT, lv]; try omega)
      have f0 : IntKind.i64.wrap (k + 1) = k + 1 := wrap_in (by omega) (by omega)
      have f1 : IntKind.i64.wrap (k + 1 + 1) = k + 1 + 1 := wrap_in (by omega) (by omega)
      have f2 : IntKind.i64.wrap (k + 1 + 1 + 1) = k + 1 + 1 + 1 := wrap_in (by omega) (by omega)
      have f3 : IntKind.i64.wrap (k + 1 + 1 + 1 + 1) = k + 1 + 1 + 1 + 1 := wrap_in (by omega) (by omega)
      have f4 : IntKind.i64.wrap (k + 1 + 1 + 1 + 1 + 1) = k + 1 + 1 + 1 + 1 + 1 := wrap_in (by omega) (by omega)
      rw [hE]
      simp only [hd, hd0, hw, cond_true, Int.toNat_natCast, hx, obind_some, List.length_set, List.getElem?_set_self hi, List.set_set, f0, f1, f2, f3, f4]) (fun k L => by simp) h.1 h.2 hk (by rw [hc]; exact hb), hc]
  rfl

theorem mark_PathPartS {l : den (.sl tPathPart)} {k : Int} (h : SmB 4611686018427387904 (.sl tPathPart) l) (hk : 0 ≤ k) (hb : k + ((lv (.sl tPathPart) l : Nat) : Int) ≤ 4611686018427387904) : l_markPathPartS l k = some (k + ((lv (.sl tPathPart) l : Nat) : Int), mkT (.sl tPathPart) l k) := by
  have hc := cntAll_sum (lv tPathPart) l
  have hc : k + ((cntAll (lv tPathPart) l : Nat) : Int) = k + ((lv (.sl tPathPart) l : Nat) : Int) := by rw [hc]; rfl
  unfold l_markPathPartS
  rw [mark0 (cE := lv tPathPart) (mE := mkT tPathPart) (SmB 4611686018427387904 tPathPart) (fun k i L x hx hi hN hk hb hp => by
      have hd : decide ((i : Int) < (L.length : Int)) = true := by simpa using hi
      have hd0 : decide ((0 : Int) ≤ (i : Int)) = true := by simp
      have hw : IntKind.i64.wrap ((i : Int) + 1) = ((i + 1 : Nat) : Int) := by rw [wrap_in (by omega) (by omega)]; omega
      have hl : k + ((lv tPathPart x : Nat) : Int) = k + 1 + 1 + 1 + ((lv (.sl tHop) x.2.2.2 : Nat) : Int) := by simp only [lv] <;> omega
      rw [hl] at hb
      rw [hl]
      have hE : mkT tPathPart x k = (k, k + 1, k + 1 + 1, mkT (.sl tHop) x.2.2.2 (k + 1 + 1 + 1)) := by first | rfl | (simp [mkT, lv]; try omega)
      have f0 : IntKind.i64.wrap (k + 1) = k + 1 := wrap_in (by omega) (by omega)
      have f1 : IntKind.i64.wrap (k + 1 + 1) = k + 1 + 1 := wrap_in (by omega) (by omega)
      have f2 : IntKind.i64.wrap (k + 1 + 1 + 1) = k + 1 + 1 + 1 := wrap_in (by omega) (by omega)
      have f3 := mark_HopS (l := x.2.2.2) (k := k + 1 + 1 + 1) hp.2.2.2 (by omega) (by omega)
      rw [hE]
      simp only [hd, hd0, hw, cond_true, Int.toNat_natCast, hx, obind_some, List.length_set, List.getElem?_set_self hi, List.set_set, f0, f1, f2, f3]) (fun k L => by simp) h.1 h.2 hk (by rw [hc]; exact hb), hc]
  rfl

theorem mark_Path {x : den tPath} {k : Int} (h : SmB 4611686018427387904 tPath x) (hk : 0 ≤ k) (hb : k + ((lv (.sl tPathPart) x : Nat) : Int) ≤ 4611686018427387904) : l_markPath x k = some (k + ((lv (.sl tPathPart) x : Nat) : Int), mkT (.sl tPathPart) x (k)) := by
  have q0 := mark_PathPartS (l := x) (k := k) h (by omega) (by omega)
  unfold l_markPath
  simp only [q0, obind_some, peta]

theorem mark_Packet {x : den tPacket} {k : Int} (h : SmB 4611686018427387904 tPacket x) (hk : 0 ≤ k) (hb : k + ((lv (.sl tPathPart) x.2.2.2.1 : Nat) : Int) + ((lv (.sl tb) x.2.2.2.2.2.2.2.2.2 : Nat) : Int) ≤ 4611686018427387904) : l_markPacket x k = some (k + ((lv (.sl tPathPart) x.2.2.2.1 : Nat) : Int) + ((lv (.sl tb) x.2.2.2.2.2.2.2.2.2 : Nat) : Int), mkT (.sl tPathPart) x.2.2.2.1 (k), mkT (.sl tb) x.2.2.2.2.2.2.2.2.2 (k + ((lv (.sl tPathPart) x.2.2.2.1 : Nat) : Int))) := by
  have q0 := mark_Path (x := x.2.2.2.1) (k := k) h.2.2.2.1 (by omega) (by omega)
  have q1 := mark_ByteS (l := x.2.2.2.2.2.2.2.2.2) (k := k + ((lv (.sl tPathPart) x.2.2.2.1 : Nat) : Int)) h.2.2.2.2.2.2.2.2.2 (by omega) (by omega)
  unfold l_markPacket
  simp only [q0, q1, obind_some, peta]

theorem held_HopS {l : den (.sl tHop)} {k : Int} (h : SmB 4611686018427387904 (.sl tHop) l) (hk : 0 ≤ k) (hb : k + ((lv (.sl tHop) l : Nat) : Int) ≤ 4611686018427387904) : l_heldHopS (mkT (.sl tHop) l k) k = some (k + ((lv (.sl tHop) l : Nat) : Int)) := by
  have hc := cntAll_sum (lv tHop) l
  have hc : k + ((cntAll (lv tHop) l : Nat) : Int) = k + ((lv (.sl tHop) l : Nat) : Int) := by rw [hc]; rfl
  unfold l_heldHopS
  have := held0 (cE := lv tHop) (mE := mkT tHop) (SmB 4611686018427387904 tHop) (fun (a_a : List (den tHop)) => fun (s7 : Int × Int) => cond (decide (s7.2 < (a_a.length : Int))) (Option.bind (idx a_a s7.2) fun x8 => cond (x8.1 != s7.1) (some (Sum.inr (Sum.inr (-1 : Int)))) (Option.bind (idx a_a s7.2) fun x9 => cond (x9.2.1 != (wr (s7.1 + (1 : Int)))) (some (Sum.inr (Sum.inr (-1 : Int)))) (Option.bind (idx a_a s7.2) fun x10 => cond (x10.2.2.1 != (wr ((wr (s7.1 + (1 : Int))) + (1 : Int)))) (some (Sum.inr (Sum.inr (-1 : Int)))) (Option.bind (idx a_a s7.2) fun x11 => cond (x11.2.2.2.1 != (wr ((wr ((wr (s7.1 + (1 : Int))) + (1 : Int))) + (1 : Int)))) (some (Sum.inr (Sum.inr (-1 : Int)))) (Option.bind (idx a_a s7.2) fun x12 => cond (x12.2.2.2.2 != (wr ((wr ((wr ((wr (s7.1 + (1 : Int))) + (1 : Int))) + (1 : Int))) + (1 : Int)))) (some (Sum.inr (Sum.inr (-1 : Int)))) (some (Sum.inl (wr ((wr ((wr ((wr ((wr (s7.1 + (1 : Int))) + (1 : Int))) + (1 : Int))) + (1 : Int))) + (1 : Int)), wr (s7.2 + (1 : Int)))))))))) (some (Sum.inr (Sum.inl s7.1)))) (l := l) (k := k) (fun k i L x hx hi hN hk hb hp => by
      have hd : decide ((i : Int) < (L.length : Int)) = true := by simpa using hi
      have hd0 : decide ((0 : Int) ≤ (i : Int)) = true := by simp
      have hw : IntKind.i64.wrap ((i : Int) + 1) = ((i + 1 : Nat) : Int) := by rw [wrap_in (by omega) (by omega)]; omega
      have hl : k + ((lv tHop x : Nat) : Int) = k + 1 + 1 + 1 + 1 + 1 := by simp only [lv] <;> omega
      rw [hl] at hb
      rw [hl]
      have hE : mkT tHop x k = (k, k + 1, k + 1 + 1, k + 1 + 1 + 1, k + 1 + 1 + 1 + 1) := by first | rfl | (simp [mkT, lv]; try omega)
      have f0 : IntKind.i64.wrap (k + 1) = k + 1 := wrap_in (by omega) (by omega)
      have f1 : IntKind.i64.wrap (k + 1 + 1) = k + 1 + 1 := wrap_in (by omega) (by omega)
      have f2 : IntKind.i64.wrap (k + 1 + 1 + 1) = k + 1 + 1 + 1 := wrap_in (by omega) (by omega)
      have f3 : IntKind.i64.wrap (k + 1 + 1 + 1 + 1) = k + 1 + 1 + 1 + 1 := wrap_in (by omega) (by omega)
      have f4 : IntKind.i64.wrap (k + 1 + 1 + 1 + 1 + 1) = k + 1 + 1 + 1 + 1 + 1 := wrap_in (by omega) (by omega)
      rw [hE] at hx
      have hi2 : idx L (i : Int) = some (k, k + 1, k + 1 + 1, k + 1 + 1 + 1, k + 1 + 1 + 1 + 1) := by rw [idx_nat]; exact hx
      simp only [hd, hw, hi2, cond_true, obind_some, bne_self_eq_false, cond_false, f0, f1, f2, f3, f4]) (fun k L => by simp) h.1 h.2 hk (by rw [hc]; exact hb)
  rw [hc] at this
  show Option.bind (loopM _ (k, (0 : Int))) _ = _
  rw [show (mkT (.sl tHop) l k) = markAll (lv tHop) (mkT tHop) l k from rfl, this]
  rfl

theorem held_PathPartS {l : den (.sl tPathPart)} {k : Int} (h : SmB 4611686018427387904 (.sl tPathPart) l) (hk : 0 ≤ k) (hb : k + ((lv (.sl tPathPart) l : Nat) : Int) ≤ 4611686018427387904) : l_heldPathPartS (mkT (.sl tPathPart) l k) k = some (k + ((lv (.sl tPathPart) l : Nat) : Int)) := by
  have hc := cntAll_sum (lv tPathPart) l
  have hc : k + ((cntAll (lv tPathPart) l : Nat) : Int) = k + ((lv (.sl tPathPart) l : Nat) : Int) := by rw [hc]; rfl
  unfold l_heldPathPartS
  have := held0 (cE := lv tPathPart) (mE := mkT tPathPart) (SmB 4611686018427387904 tPathPart) (fun (a_a : List (den tPathPart)) => fun (s7 : Int × Int) => cond (decide (s7.2 < (a_a.length : Int))) (Option.bind (idx a_a s7.2) fun x8 => cond (x8.1 != s7.1) (some (Sum.inr (Sum.inr (-1 : Int)))) (Option.bind (idx a_a s7.2) fun x9 => cond (x9.2.1 != (wr (s7.1 + (1 : Int)))) (some (Sum.inr (Sum.inr (-1 : Int)))) (Option.bind (idx a_a s7.2) fun x10 => cond (x10.2.2.1 != (wr ((wr (s7.1 + (1 : Int))) + (1 : Int)))) (some (Sum.inr (Sum.inr (-1 : Int)))) (Option.bind (idx a_a s7.2) fun x11 => Option.bind (l_heldHopS x11.2.2.2 (wr ((wr ((wr (s7.1 + (1 : Int))) + (1 : Int))) + (1 : Int)))) fun y12 => cond (decide (y12 < (0 : Int))) (some (Sum.inr (Sum.inr (-1 : Int)))) (some (Sum.inl (y12, wr (s7.2 + (1 : Int))))))))) (some (Sum.inr (Sum.inl s7.1)))) (l := l) (k := k) (fun k i L x hx hi hN hk hb hp => by
      have hd : decide ((i : Int) < (L.length : Int)) = true := by simpa using hi
      have hd0 : decide ((0 : Int) ≤ (i : Int)) = true := by simp
      have hw : IntKind.i64.wrap ((i : Int) + 1) = ((i + 1 : Nat) : Int) := by rw [wrap_in (by omega) (by omega)]; omega
      have hl : k + ((lv tPathPart x : Nat) : Int) = k + 1 + 1 + 1 + ((lv (.sl tHop) x.2.2.2 : Nat) : Int) := by simp only [lv] <;> omega
      rw [hl] at hb
      rw [hl]
      have hE : mkT tPathPart x k = (k, k + 1, k + 1 + 1, mkT (.sl tHop) x.2.2.2 (k + 1 + 1 + 1)) := by first | rfl | (simp [mkT, lv]; try omega)
      have f0 : IntKind.i64.wrap (k + 1) = k + 1 := wrap_in (by omega) (by omega)
      have f1 : IntKind.i64.wrap (k + 1 + 1) = k + 1 + 1 := wrap_in (by omega) (by omega)
      have f2 : IntKind.i64.wrap (k + 1 + 1 + 1) = k + 1 + 1 + 1 := wrap_in (by omega) (by omega)
      have f3 := held_HopS (l := x.2.2.2) (k := k + 1 + 1 + 1) hp.2.2.2 (by omega) (by omega)
      have g3 : decide (k + 1 + 1 + 1 + ((lv (.sl tHop) x.2.2.2 : Nat) : Int) < 0) = false := by simp <;> omega
      rw [hE] at hx
      have hi2 : idx L (i : Int) = some (k, k + 1, k + 1 + 1, mkT (.sl tHop) x.2.2.2 (k + 1 + 1 + 1)) := by rw [idx_nat]; exact hx
      simp only [hd, hw, hi2, cond_true, obind_some, bne_self_eq_false, cond_false, f0, f1, f2, f3, g3]) (fun k L => by simp) h.1 h.2 hk (by rw [hc]; exact hb)
  rw [hc] at this
  show Option.bind (loopM _ (k, (0 : Int))) _ = _
  rw [show (mkT (.sl tPathPart) l k) = markAll (lv tPathPart) (mkT tPathPart) l k from rfl, this]
  rfl

theorem held_Path {x : den tPath} {k : Int} (h : SmB 4611686018427387904 tPath x) (hk : 0 ≤ k) (hb : k + ((lv (.sl tPathPart) x : Nat) : Int) ≤ 4611686018427387904) : l_heldPath (mkT (.sl tPathPart) x (k)) k = some (k + ((lv (.sl tPathPart) x : Nat) : Int)) := by
  have q0 := held_PathPartS (l := x) (k := k) h (by omega) (by omega)
  have d0 : decide (k + ((lv (.sl tPathPart) x : Nat) : Int) < 0) = false := by simp <;> omega
  unfold l_heldPath
  simp only [q0, d0, obind_some, peta, cond_false]

theorem held_ByteS {l : den (.sl tb)} {k : Int} (h : SmB 4611686018427387904 (.sl tb) l) (hk : 0 ≤ k) (hb : k + ((lv (.sl tb) l : Nat) : Int) ≤ 4611686018427387904) : l_heldByteS (mkT (.sl tb) l k) k = some (k + ((lv (.sl tb) l : Nat) : Int)) := by
  have hc := cntAll_sum (lv tb) l
  have hc : k + ((cntAll (lv tb) l : Nat) : Int) = k + ((lv (.sl tb) l : Nat) : Int) := by rw [hc]; rfl
  unfold l_heldByteS
  have := held0 (cE := lv tb) (mE := mkT tb) (SmB 4611686018427387904 tb) (fun (a_a : List Int) => fun (s3 : Int × Int) => cond (decide (s3.2 < (a_a.length : Int))) (Option.bind (idx a_a s3.2) fun x4 => cond (x4 != (IntKind.wrap .u8 s3.1)) (some (Sum.inr (Sum.inr (-1 : Int)))) (some (Sum.inl (wr (s3.1 + (1 : Int)), wr (s3.2 + (1 : Int)))))) (some (Sum.inr (Sum.inl s3.1)))) (l := l) (k := k) (fun k i L x hx hi hN hk hb hp => by
      have hd : decide ((i : Int) < (L.length : Int)) = true := by simpa using hi
      have hd0 : decide ((0 : Int) ≤ (i : Int)) = true := by simp
      have hw : IntKind.i64.wrap ((i : Int) + 1) = ((i + 1 : Nat) : Int) := by rw [wrap_in (by omega) (by omega)]; omega
      have hl : k + ((lv tb x : Nat) : Int) = k + 1 := by simp only [lv] <;> omega
      rw [hl] at hb
      rw [hl]
      have hE : mkT tb x k = IntKind.u8.wrap (k) := by first | rfl | (simp [mkT, lv]; try omega)
      have f0 : IntKind.i64.wrap (k + 1) = k + 1 := wrap_in (by omega) (by omega)
      rw [hE] at hx
      have hi2 : idx L (i : Int) = some (IntKind.u8.wrap (k)) := by rw [idx_nat]; exact hx
      simp only [hd, hw, hi2, cond_true, obind_some, bne_self_eq_false, cond_false, f0]) (fun k L => by simp) h.1 h.2 hk (by rw [hc]; exact hb)
  rw [hc] at this
  show Option.bind (loopM _ (k, (0 : Int))) _ = _
  rw [show (mkT (.sl tb) l k) = markAll (lv tb) (mkT tb) l k from rfl, this]
  rfl

theorem held_Packet {x : den tPacket} {k : Int} (h : SmB 4611686018427387904 tPacket x) (hk : 0 ≤ k) (hb : k + ((lv (.sl tPathPart) x.2.2.2.1 : Nat) : Int) + ((lv (.sl tb) x.2.2.2.2.2.2.2.2.2 : Nat) : Int) ≤ 4611686018427387904) : l_heldPacket (x.1, x.2.1, x.2.2.1, mkT (.sl tPathPart) x.2.2.2.1 (k), x.2.2.2.2.1, x.2.2.2.2.2.1, x.2.2.2.2.2.2.1, x.2.2.2.2.2.2.2.1, x.2.2.2.2.2.2.2.2.1, mkT (.sl tb) x.2.2.2.2.2.2.2.2.2 (k + ((lv (.sl tPathPart) x.2.2.2.1 : Nat) : Int))) k = some (k + ((lv (.sl tPathPart) x.2.2.2.1 : Nat) : Int) + ((lv (.sl tb) x.2.2.2.2.2.2.2.2.2 : Nat) : Int)) := by
  have q0 := held_Path (x := x.2.2.2.1) (k := k) h.2.2.2.1 (by omega) (by omega)
  have q1 := held_ByteS (l := x.2.2.2.2.2.2.2.2.2) (k := k + ((lv (.sl tPathPart) x.2.2.2.1 : Nat) : Int)) h.2.2.2.2.2.2.2.2.2 (by omega) (by omega)
  have d0 : decide (k + ((lv (.sl tPathPart) x.2.2.2.1 : Nat) : Int) < 0) = false := by simp <;> omega
  have d1 : decide (k + ((lv (.sl tPathPart) x.2.2.2.1 : Nat) : Int) + ((lv (.sl tb) x.2.2.2.2.2.2.2.2.2 : Nat) : Int) < 0) = false := by simp <;> omega
  unfold l_heldPacket
  simp only [q0, q1, d0, d1, obind_some, peta, cond_false]

def inR (n a b : Int) : Bool := decide (a ≤ n) && decide (n ≤ b)

theorem i_in (n a b : Int) : i_InRange n a b = some (inR n a b) := by
  unfold i_InRange inR
  by_cases h : a ≤ n <;> simp [h]

theorem s_in (n a b : Int) : s_l1In n a b = some (inR n a b) := by
  unfold s_l1In inR
  by_cases h : a ≤ n <;> simp [h]

theorem inR_iff {n a b : Int} : inR n a b = true ↔ a ≤ n ∧ n ≤ b := by simp [inR]

theorem i_copyB {b : List Int} (h : b.length ≤ 68719476736) : i_copyBytes b = some b := by
  unfold i_copyBytes
  rw [apOk_le (by decide) (by simpa using h)]; simp

theorem i_copyH {l : List (den tHop)} (h : l.length ≤ 68719476736) : i_copyHops l = some l := by
  unfold i_copyHops
  rw [apOk_le (by decide) (by simpa using h)]; simp

theorem s_copyPt {p : den tPathPart} (h : SmB 68719476736 tPathPart p) : s_l21Copy p = some p := by
  unfold s_l21Copy
  rw [apOk_le (by decide) (by simpa using h.2.2.2.1)]; simp

theorem i_copyP {p : den tPath} (h : SmB 68719476736 tPath p) : i_copyPath p = some p := by
  unfold i_copyPath
  rw [(loopF (fun k (a : List (den tPathPart)) => ((k : Int), a)) ((0 : Int), []) [] p (fun _ x a => a ++ [x]) List.length (fun _ => 1) 68719476736 id rfl (Nat.le_trans h.1 (by decide)) (by rw [sum_one]; simpa using h.1) (fun k x a hi hx hd hw hk hb => by
    have e := h.2 x (List.mem_of_getElem? hx)
    simp only [hd, hi, hw, cond_true, obind_some, i_copyH e.2.2.2.1, peta, apOk_le (b := 48) (by decide) hb]
    simp) (fun a => by simp)).1, foldI_map (fun x => x)]
  simp

theorem s_copyP {p : den tPath} (h : SmB 68719476736 tPath p) : s_l22Copy p = some p := by
  unfold s_l22Copy
  rw [(loopF (fun k (a : List (den tPathPart)) => ((k : Int), a)) ((0 : Int), []) [] p (fun _ x a => a ++ [x]) List.length (fun _ => 1) 68719476736 id rfl (Nat.le_trans h.1 (by decide)) (by rw [sum_one]; simpa using h.1) (fun k x a hi hx hd hw hk hb => by
    have e := h.2 x (List.mem_of_getElem? hx)
    simp only [hd, hi, hw, cond_true, obind_some, peta, s_copyPt e, apOk_le (b := 48) (by decide) hb]
    simp) (fun a => by simp)).1, foldI_map (fun x => x)]
  simp

def comes (x : den tInbox) (p : den tPacket) : Bool := p.1 == 1 && (p.2.1 == x.2.1 && p.2.2.1 == x.1)

theorem i_comes (x : den tInbox) (p : den tPacket) : i_comesTo x p = some (comes x p) := by
  unfold i_comesTo comes
  cases p.1 == 1 <;> cases p.2.1 == x.2.1 <;> rfl

theorem s_comes (x : den tInbox) (p : den tPacket) : s_l36For x p = some (comes x p) := by
  unfold s_l36For comes
  cases p.1 == 1 <;> cases p.2.1 == x.2.1 <;> rfl

def isRev (k : Int) : Bool := k == 1 || k == 3

theorem i_isRev (k : Int) : i_IsReversed k = some (isRev k) := by
  unfold i_IsReversed isRev
  cases k == 1 <;> rfl

theorem s_isRev (k : Int) : s_IsReversed k = some (isRev k) := by
  unfold s_IsReversed isRev
  cases k == 1 <;> rfl

def pIn (p : den tPathPart) (h : den tHop) : Int := if isRev p.1 then h.2.2.1 else h.2.1

def pEg (p : den tPathPart) (h : den tHop) : Int := if isRev p.1 then h.2.1 else h.2.2.1

theorem wr_len {n : Nat} (h : n ≤ 68719476736) : wr ((n : Int) - 1) = (n : Int) - 1 := wrap_in (by omega) (by omega)

theorem inR_idx {k n : Nat} (h : k < n) : inR (k : Int) 0 ((n : Int) - 1) = true := by rw [inR_iff]; omega

theorem i_pIn {p : den tPathPart} {k : Nat} {h : den tHop} (hk : p.2.2.2[k]? = some h) (hl : p.2.2.2.length ≤ 68719476736) : i_PartIngress p (k : Int) = some (pIn p h) := by
  have hlt : k < p.2.2.2.length := (List.getElem?_eq_some_iff.1 hk).1
  unfold i_PartIngress pIn
  simp only [i_in, wr_len hl, inR_idx hlt, obind_some, Bool.not_true, cond_false, i_isRev, idx_nat, hk]
  cases isRev p.1 <;> rfl

theorem s_pIn {p : den tPathPart} {k : Nat} {h : den tHop} (hk : p.2.2.2[k]? = some h) (hl : p.2.2.2.length ≤ 68719476736) : s_PartIngress p (k : Int) = some (pIn p h) := by
  have hlt : k < p.2.2.2.length := (List.getElem?_eq_some_iff.1 hk).1
  unfold s_PartIngress pIn
  simp only [s_in, wr_len hl, inR_idx hlt, obind_some, Bool.not_true, cond_false, s_isRev, idx_nat, hk]
  cases isRev p.1 <;> rfl

theorem i_pEg {p : den tPathPart} {k : Nat} {h : den tHop} (hk : p.2.2.2[k]? = some h) (hl : p.2.2.2.length ≤ 68719476736) : i_PartEgress p (k : Int) = some (pEg p h) := by
  have hlt : k < p.2.2.2.length := (List.getElem?_eq_some_iff.1 hk).1
  unfold i_PartEgress pEg
  simp only [i_in, wr_len hl, inR_idx hlt, obind_some, Bool.not_true, cond_false, i_isRev, idx_nat, hk]
  cases isRev p.1 <;> rfl

theorem s_pEg {p : den tPathPart} {k : Nat} {h : den tHop} (hk : p.2.2.2[k]? = some h) (hl : p.2.2.2.length ≤ 68719476736) : s_PartEgress p (k : Int) = some (pEg p h) := by
  have hlt : k < p.2.2.2.length := (List.getElem?_eq_some_iff.1 hk).1
  unfold s_PartEgress pEg
  simp only [s_in, wr_len hl, inR_idx hlt, obind_some, Bool.not_true, cond_false, s_isRev, idx_nat, hk]
  cases isRev p.1 <;> rfl

def addS (nf : Bool) (p : den tPathPart) (i : Nat) (h : den tHop) (out : List (den tStep)) : List (den tStep) :=
  match out.getLast? with
  | some z => if nf && (decide (i = 0) && z.1 == h.1) then out.dropLast ++ [(h.1, z.2.1, pEg p h)] else out ++ [(h.1, pIn p h, pEg p h)]
  | none => out ++ [(h.1, pIn p h, pEg p h)]

theorem addS_len (nf : Bool) (p : den tPathPart) (i : Nat) (h : den tHop) (out : List (den tStep)) : (addS nf p i h out).length ≤ out.length + 1 := by
  unfold addS
  split
  · split
    · simp only [List.length_append, List.length_dropLast, List.length_singleton]; omega
    · simp
  · simp

def partS (nf : Bool) (p : den tPathPart) (a : List (den tStep)) : List (den tStep) := foldI (fun i h b => addS nf p i h b) 0 p.2.2.2 a

def steps0 (p : den tPath) : List (den tStep) := foldI (fun k x a => partS (decide (0 < k)) x a) 0 p []

def endS (l : List (den tStep)) : List (den tStep) :=
  match l with
  | [] => []
  | x :: xs => let m := (x.1, 0, x.2.2) :: xs
    match m.getLast? with
    | some y => m.dropLast ++ [(y.1, y.2.1, 0)]
    | none => []

def steps (p : den tPath) : List (den tStep) := endS (steps0 p)

theorem endS_len (l : List (den tStep)) : (endS l).length = l.length := by
  unfold endS
  split
  · rfl
  · rename_i x xs
    simp only
    rw [List.getLast?_eq_some_getLast (by simp)]
    simp

theorem hops_sum (p : den tPath) : (p.map fun x => x.2.2.2.length).sum ≤ tot tPath p := by
  show _ ≤ tot (.sl tPathPart) p
  rw [← tot_sum]
  induction p with
  | nil => exact Nat.le_refl _
  | cons x p ih =>
    simp only [List.map_cons, List.sum_cons]
    have h1 : x.2.2.2.length ≤ tot tPathPart x := by
      show _ ≤ tot ti x.1 + (tot ti x.2.1 + (tot ti x.2.2.1 + tot (.sl tHop) x.2.2.2))
      rw [tot_flatL rfl]; omega
    omega

theorem wr_pos {n : Nat} (h : n ≤ 68719476736) (h0 : 0 < n) : wr ((n : Int) - 1) = ((n - 1 : Nat) : Int) := by
  rw [wr_len h]; omega

theorem wr_last {α : Type} {m : List α} {z : α} (h : (m ++ [z]).length ≤ 68719476736) : wr (((m ++ [z]).length : Int) - 1) = (m.length : Int) := by
  rw [wr_pos h (by simp)]; simp

theorem partS_len (nf : Bool) (p : den tPathPart) (a : List (den tStep)) : (partS nf p a).length ≤ a.length + p.2.2.2.length := by
  have := foldI_m (m := List.length) (cost := fun _ => 1) (fun i h b => addS_len nf p i h b) p.2.2.2 0 a
  rw [sum_one] at this
  exact this

theorem steps0_len (p : den tPath) : (steps0 p).length ≤ tot tPath p := by
  have := foldI_m (m := List.length) (cost := fun x : den tPathPart => x.2.2.2.length) (fun k x a => partS_len (decide (0 < k)) x a) p 0 []
  have h2 := hops_sum p
  have h3 : (steps0 p).length ≤ 0 + (p.map fun x => x.2.2.2.length).sum := this
  omega

theorem steps_len (p : den tPath) : (steps p).length ≤ tot tPath p := by
  unfold steps; rw [endS_len]; exact steps0_len p

theorem dec_pos (k : Nat) : decide ((k : Int) > 0) = decide (0 < k) := by rw [Bool.eq_iff_iff]; simp

theorem dec_zero (i : Nat) : ((i : Int) == 0) = decide (i = 0) := by rw [Bool.eq_iff_iff]; simp

theorem addS_nil (nf : Bool) (p : den tPathPart) (i : Nat) (h : den tHop) : addS nf p i h [] = [(h.1, pIn p h, pEg p h)] := rfl

theorem addS_last (nf : Bool) (p : den tPathPart) (i : Nat) (h : den tHop) (m : List (den tStep)) (z : den tStep) : addS nf p i h (m ++ [z]) = if nf && (decide (i = 0) && z.1 == h.1) then m ++ [(h.1, z.2.1, pEg p h)] else (m ++ [z]) ++ [(h.1, pIn p h, pEg p h)] := by
  unfold addS
  rw [List.getLast?_concat, List.dropLast_concat]

theorem endS_some {m : List (den tStep)} {x z : den tStep} {xs : List (den tStep)} (h : (x.1, (0 : Int), x.2.2) :: xs = m ++ [z]) : endS (x :: xs) = m ++ [(z.1, z.2.1, 0)] := by
  unfold endS
  simp only
  rw [h, List.getLast?_concat, List.dropLast_concat]

theorem i_steps {p : den tPath} (h : tot tPath p ≤ 34359738368) : i_PathSteps p = some (steps p) := by
  have hs := hops_sum p
  have sm : SmB 34359738368 tPath p := sm_of_tot h
  have hl := steps0_len p
  unfold i_PathSteps
  rw [loopG (fun k (a : List (den tStep)) => ((k : Int), a)) ((0 : Int), []) [] p (fun k x a => partS (decide (0 < k)) x a) List.length (fun x => x.2.2.2.length) 34359738368 id rfl (Nat.le_trans sm.1 (by decide)) (by simp only [List.length_nil]; omega) (fun k x a => partS_len _ x a) (fun k x a hi hx hd hw hk hb => by
    have hxl : x.2.2.2.length ≤ 34359738368 := (sm.2 x (List.mem_of_getElem? hx)).2.2.2.1
    simp only [hd, hi, hw, cond_true, obind_some]
    rw [loopG (fun i (b : List (den tStep)) => ((i : Int), b)) ((0 : Int), a) a x.2.2.2 (fun i h b => addS (decide (0 < k)) x i h b) List.length (fun _ => 1) 34359738368 id rfl (Nat.le_trans hxl (by decide)) (by rw [sum_one]; exact hb) (fun i h b => addS_len _ x i h b) (fun i g b hi2 hg hd2 hw2 hk2 hb2 => by
      have hl2 : x.2.2.2.length ≤ 68719476736 := by omega
      simp only [hd2, hi2, hw2, cond_true, obind_some, peta, i_pIn hg hl2, i_pEg hg hl2, dec_pos, dec_zero, apOk_le (b := 24) (n := b.length) (m := 1) (by decide) (by omega)]
      rcases nil_or_concat b with rfl | ⟨m, z, rfl⟩
      · rw [addS_nil]
        cases decide (0 < k) <;> cases decide (i = 0) <;> rfl
      · rw [addS_last, wr_last (by omega)]
        simp only [pos_nat, pos_nat', lt_last, get_last, cond_true, Int.toNat_natCast, obind_some, set_last]
        cases decide (0 < k) <;> cases decide (i = 0) <;> cases hz : z.1 == g.1 <;> simp [hz]
        simpa using hz) (fun b => by simp)]
    rfl) (fun a => by simp)]
  simp only [obind_some, id]
  rw [show foldI (fun k x a => partS (decide (0 < k)) x a) 0 p [] = steps0 p from rfl]
  show _ = some (endS (steps0 p))
  generalize steps0 p = l at hl
  cases l with
  | nil => rfl
  | cons x xs =>
    have e1 : decide ((((x :: xs).length : Nat) : Int) > 0) = true := by simp
    have e2 : decide ((0 : Int) < (((x :: xs).length : Nat) : Int)) = true := by simp
    have e3 : (0 : Int).toNat = 0 := rfl
    have e4 : decide ((0 : Int) ≤ 0) = true := rfl
    simp only [e1, e2, e3, e4, cond_true, List.getElem?_cons_zero, obind_some, List.set_cons_zero]
    rcases nil_or_concat ((x.1, (0 : Int), x.2.2) :: xs) with h0 | ⟨m, z, hm⟩
    · cases h0
    · have hlen : ((x.1, (0 : Int), x.2.2) :: xs).length = (x :: xs).length := rfl
      rw [endS_some hm]
      rw [hm] at hlen ⊢
      rw [wr_last (by omega)]
      simp only [pos_nat, lt_last, get_last, cond_true, Int.toNat_natCast, obind_some, set_last]

theorem s_steps {p : den tPath} (h : tot tPath p ≤ 34359738368) : s_PathSteps p = some (steps p) := by
  have hs := hops_sum p
  have sm : SmB 34359738368 tPath p := sm_of_tot h
  have hl := steps0_len p
  unfold s_PathSteps
  rw [loopG (fun k (a : List (den tStep)) => ((k : Int), a)) ((0 : Int), []) [] p (fun k x a => partS (decide (0 < k)) x a) List.length (fun x => x.2.2.2.length) 34359738368 id rfl (Nat.le_trans sm.1 (by decide)) (by simp only [List.length_nil]; omega) (fun k x a => partS_len _ x a) (fun k x a hi hx hd hw hk hb => by
    have hxl : x.2.2.2.length ≤ 34359738368 := (sm.2 x (List.mem_of_getElem? hx)).2.2.2.1
    simp only [hd, hi, hw, cond_true, obind_some]
    rw [loopG (fun i (b : List (den tStep)) => ((i : Int), b)) ((0 : Int), a) a x.2.2.2 (fun i h b => addS (decide (0 < k)) x i h b) List.length (fun _ => 1) 34359738368 id rfl (Nat.le_trans hxl (by decide)) (by rw [sum_one]; exact hb) (fun i h b => addS_len _ x i h b) (fun i g b hi2 hg hd2 hw2 hk2 hb2 => by
      have hl2 : x.2.2.2.length ≤ 68719476736 := by omega
      simp only [hd2, hi2, hw2, cond_true, obind_some, peta, s_pIn hg hl2, s_pEg hg hl2, both_self, dec_pos, dec_zero]
      rcases nil_or_concat b with rfl | ⟨m, z, rfl⟩
      · rw [addS_nil]
        cases decide (0 < k) <;> cases decide (i = 0) <;> rfl
      · rw [addS_last, wr_last (by omega)]
        have e1 : decide (((m ++ [z]).length : Int) > 0) = true := by simp
        have e2 : slOk (0 : Int) (m.length : Int) ((m ++ [z]).length : Int) = true := by simp [slOk]; omega
        have e3 : (m ++ [z]).take m.length = m := by simp
        have e4 := apOk_le (b := 24) (n := m.length) (m := 1) (by decide) (by simp at hb2; omega)
        have e5 := apOk_le (b := 24) (n := m.length + 1) (m := 1) (by decide) (by simp at hb2; omega)
        simp only [pos_nat, e1, e2, e3, lt_last, get_last, cond_true, Int.toNat_natCast, obind_some]
        cases decide (0 < k) <;> cases decide (i = 0) <;> cases hz : z.1 == g.1 <;> simp [hz, e4, e5]) (fun b => by simp [hi])]
    rfl) (fun a => by simp)]
  simp only [obind_some, id]
  rw [show foldI (fun k x a => partS (decide (0 < k)) x a) 0 p [] = steps0 p from rfl]
  show _ = some (endS (steps0 p))
  generalize steps0 p = l at hl
  cases l with
  | nil => rfl
  | cons x xs =>
    have e1 : decide ((((x :: xs).length : Nat) : Int) > 0) = true := by simp
    have e2 : decide ((0 : Int) < (((x :: xs).length : Nat) : Int)) = true := by simp
    have e3 : (0 : Int).toNat = 0 := rfl
    have e4 : decide ((0 : Int) ≤ 0) = true := rfl
    have e5 : decide (0 < (x :: xs).length) = true := by simp
    simp only [e1, e2, e3, e4, e5, cond_true, List.getElem?_cons_zero, obind_some, List.set_cons_zero]
    rcases nil_or_concat ((x.1, (0 : Int), x.2.2) :: xs) with h0 | ⟨m, z, hm⟩
    · cases h0
    · have hlen : ((x.1, (0 : Int), x.2.2) :: xs).length = (x :: xs).length := rfl
      rw [endS_some hm]
      rw [hm] at hlen ⊢
      rw [wr_last (by omega)]
      have e6 : decide (m.length < (m ++ [z]).length) = true := by simp
      simp only [pos_nat, lt_last, get_last, e6, cond_true, Int.toNat_natCast, obind_some, set_last]

def ends (p : den tPath) : Int × Int :=
  match (steps p).head?, (steps p).getLast? with
  | some x, some y => (x.1, y.1)
  | _, _ => (-1, -1)

theorem i_ends {p : den tPath} (h : tot tPath p ≤ 34359738368) : i_Endpoints p = some (ends p) := by
  unfold i_Endpoints ends
  have hl := steps_len p
  rw [i_steps h, obind_some]
  generalize steps p = l at hl
  rcases nil_or_concat l with rfl | ⟨m, z, rfl⟩
  · rfl
  · rw [wr_last (by omega)]
    have e1 : (((m ++ [z]).length : Int) == 0) = false := by simp <;> omega
    have e2 : decide ((0 : Int) < ((m ++ [z]).length : Int)) = true := by simp <;> omega
    have e3 : decide ((0 : Int) ≤ 0) = true := rfl
    rw [e1, e2, e3, pos_nat, lt_last, List.getLast?_concat]
    cases m with
    | nil => rfl
    | cons x m => simp

theorem s_ends {p : den tPath} (h : tot tPath p ≤ 34359738368) : s_Endpoints p = some (ends p) := by
  unfold s_Endpoints ends
  have hl := steps_len p
  rw [s_steps h, obind_some]
  generalize steps p = l at hl
  rcases nil_or_concat l with rfl | ⟨m, z, rfl⟩
  · rfl
  · rw [wr_last (by omega)]
    have e1 : (((m ++ [z]).length : Int) == 0) = false := by simp <;> omega
    have e2 : decide ((0 : Int) < ((m ++ [z]).length : Int)) = true := by simp <;> omega
    have e3 : decide ((0 : Int) ≤ 0) = true := rfl
    rw [e1, e2, e3, pos_nat, lt_last, List.getLast?_concat]
    cases m with
    | nil => rfl
    | cons x m => simp

/-- A packet as it is handed back: its slices last. -/
def pkR (p : den tPacket) : Int × Int × Int × Int × Int × Int × Int × Int × (List (den tPathPart)) × (List Int) := (p.1, p.2.1, p.2.2.1, p.2.2.2.2.1, p.2.2.2.2.2.1, p.2.2.2.2.2.2.1, p.2.2.2.2.2.2.2.1, p.2.2.2.2.2.2.2.2.1, p.2.2.2.1, p.2.2.2.2.2.2.2.2.2)

def beta0 (p : den tPath) : Int := match p with
  | [] => 0
  | x :: _ => x.2.2.1

def newPk (kind : Int) (p : den tPath) (res seq : Int) (pay : List Int) : den tPacket := (kind, (ends p).1, (ends p).2, p, 0, 0, beta0 p, res, seq, pay)

theorem i_newPk {kind res seq : Int} {p : den tPath} {pay : List Int} (h : tot tPath p ≤ 34359738368) (hp : pay.length ≤ 68719476736) : i_NewPacket kind p res seq pay = some (pkR (newPk kind p res seq pay)) := by
  unfold i_NewPacket
  rw [i_copyP ((sm_of_tot h).mono (by decide)), i_copyB hp, i_ends h]
  simp only [obind_some]
  cases p with
  | nil => rfl
  | cons x p =>
    have e1 : decide (((x :: p).length : Int) > 0) = true := by simp
    rw [e1]; rfl

theorem s_newPk {kind res seq : Int} {p : den tPath} {pay : List Int} (h : tot tPath p ≤ 34359738368) (hp : pay.length ≤ 68719476736) : s_NewPacket kind p res seq pay = some (pkR (newPk kind p res seq pay)) := by
  unfold s_NewPacket
  rw [s_copyP ((sm_of_tot h).mono (by decide)), s_ends h, apOk_le (b := 1) (n := ([] : List Int).length) (by decide) (by simpa using hp)]
  simp only [obind_some, cond_true, List.nil_append]
  cases p with
  | nil => rfl
  | cons x p =>
    have e1 : decide (((x :: p).length : Int) > 0) = true := by simp
    rw [e1]; rfl

def revK (k : Int) : Int := if k = 1 then 4 else if k = 4 then 1 else if k = 2 then 3 else if k = 3 then 2 else k

theorem i_revK (k : Int) : i_ReverseKind k = some (revK k) := by
  unfold i_ReverseKind revK
  by_cases h1 : k = 1
  · subst h1; rfl
  by_cases h2 : k = 4
  · subst h2; rfl
  by_cases h3 : k = 2
  · subst h3; rfl
  by_cases h4 : k = 3
  · subst h4; rfl
  have b1 : (k == 1) = false := by simpa using h1
  have b2 : (k == 4) = false := by simpa using h2
  have b3 : (k == 2) = false := by simpa using h3
  have b4 : (k == 3) = false := by simpa using h4
  rw [b1, b2, b3, b4, if_neg h1, if_neg h2, if_neg h3, if_neg h4]; rfl

theorem s_revK (k : Int) : s_ReverseKind k = some (revK k) := i_revK k

def resid (n : Int) : Bool := inR n 0 2147483646

theorem i_resid (n : Int) : i_isResidue n = some (resid n) := by unfold i_isResidue resid; rw [i_in]; rfl

theorem s_resid (n : Int) : s_l3Ok n = some (resid n) := by unfold s_l3Ok resid; rw [s_in]; rfl

def addM (b s : Int) : Int := if resid b && resid s then Int.tmod (wr (b + s)) 2147483647 else 0

def subM (b s : Int) : Int := if resid b && resid s then Int.tmod (wr ((wr (b - s)) + 2147483647)) 2147483647 else 0

theorem i_addM (b s : Int) : i_AddMod b s = some (addM b s) := by
  unfold i_AddMod addM
  simp only [i_resid, obind_some]
  cases resid b <;> cases resid s <;> rfl

theorem s_addM (b s : Int) : s_AddMod b s = some (addM b s) := by
  unfold s_AddMod addM
  simp only [s_resid, obind_some]
  cases resid b <;> cases resid s <;> rfl

theorem i_subM (b s : Int) : i_SubMod b s = some (subM b s) := by
  unfold i_SubMod subM
  simp only [i_resid, obind_some]
  cases resid b <;> cases resid s <;> rfl

theorem s_subM (b s : Int) : s_SubMod b s = some (subM b s) := by
  unfold s_SubMod subM
  simp only [s_resid, obind_some]
  cases resid b <;> cases resid s <;> rfl

def betaStep (k : Int) (b : Int) (h : den tHop) : Int := if isRev k then subM b h.2.2.2.2 else addM b h.2.2.2.2

def betaA (p : den tPathPart) (n : Nat) : Int := (p.2.2.2.take n).foldl (betaStep p.1) p.2.2.1

theorem i_betaA {p : den tPathPart} {n : Nat} (hn : n ≤ p.2.2.2.length) (hl : p.2.2.2.length ≤ 68719476736) : i_BetaAfter p (n : Int) = some (betaA p n) := by
  unfold i_BetaAfter betaA
  have e1 : inR (n : Int) 0 (p.2.2.2.length : Int) = true := by rw [inR_iff]; omega
  have e2 : slOk (0 : Int) (n : Int) (p.2.2.2.length : Int) = true := by simp [slOk]; omega
  rw [i_in, e1, obind_some, e2, cut_take]
  have hlen : (p.2.2.2.take n).length ≤ 4611686018427387904 := by rw [List.length_take]; omega
  rw [loopG (fun k (b : Int) => (b, (k : Int))) (p.2.2.1, (0 : Int)) p.2.2.1 (p.2.2.2.take n) (fun _ h b => betaStep p.1 b h) (fun _ => 0) (fun _ => 0) 0 id rfl hlen (by rw [sum_nil]; exact Nat.le_refl _) (fun _ _ _ => Nat.le_refl _) (fun k x b hi hx hd hw hk hb => by
    simp only [hd, hi, hw, cond_true, obind_some, i_isRev, i_subM, i_addM, betaStep]
    cases isRev p.1 <;> rfl) (fun b => by simp), foldI_foldl (fun b h => betaStep p.1 b h)]
  rfl

theorem s_betaA {p : den tPathPart} {n : Nat} (hn : n ≤ p.2.2.2.length) (hl : p.2.2.2.length ≤ 68719476736) : s_BetaAfter p (n : Int) = some (betaA p n) := by
  unfold s_BetaAfter betaA
  have e1 : inR (n : Int) 0 (p.2.2.2.length : Int) = true := by rw [inR_iff]; omega
  have e3 : (p.2.2.2.take n).length = n := by rw [List.length_take]; omega
  rw [s_in, e1, obind_some]
  rw [loopG (fun k (b : Int) => (b, (k : Int))) (p.2.2.1, (0 : Int)) p.2.2.1 (p.2.2.2.take n) (fun _ h b => betaStep p.1 b h) (fun _ => 0) (fun _ => 0) 0 id rfl (by rw [e3]; omega) (by rw [sum_nil]; exact Nat.le_refl _) (fun _ _ _ => Nat.le_refl _) (fun k x b hi hx hd hw hk hb => by
    have hx' : p.2.2.2[k]? = some x := by rw [List.getElem?_take] at hx; split at hx; exact hx; cases hx
    rw [e3] at hd
    simp only [hd, hw, cond_true, obind_some, idx_nat, hx', s_isRev, s_subM, s_addM, betaStep]
    cases isRev p.1 <;> rfl) (fun b => by rw [e3]; simp), foldI_foldl (fun b h => betaStep p.1 b h)]
  rfl

def revPt (p : den tPathPart) : den tPathPart := (revK p.1, p.2.1, betaA p p.2.2.2.length, p.2.2.2.reverse)

theorem i_revH {l : List (den tHop)} (hl : l.length ≤ 68719476736) : i_reversedHops l = some l.reverse := by
  unfold i_reversedHops
  have e : wr ((l.length : Int) - 1) = (l.length : Int) - 1 := wr_len hl
  rw [e, loopR (fun k (a : List (den tHop)) => (k, a)) ((l.length : Int) - 1, []) [] l (fun x a => a ++ [x]) List.length (fun _ => 1) 68719476736 id rfl (by omega) (by rw [sum_one]; simpa using hl) (fun x a => by simp) (fun k x a hi hx hd hw hk hb => by
    simp only [hd, hi, hw, cond_true, obind_some, peta, apOk_le (b := 40) (n := a.length) (m := 1) (by decide) hb]) (fun a => by simp), foldr_map (fun x => x)]
  simp

theorem i_revPt {p : den tPathPart} (hl : p.2.2.2.length ≤ 68719476736) : i_ReversePart p = some (revPt p) := by
  unfold i_ReversePart revPt
  simp only [i_revK, peta, i_betaA (Nat.le_refl _) hl, i_revH hl, obind_some]

theorem s_revPt {p : den tPathPart} (hl : p.2.2.2.length ≤ 68719476736) : s_ReversePart p = some (revPt p) := by
  unfold s_ReversePart revPt
  simp only [s_revK, peta, s_betaA (Nat.le_refl _) hl, both_self, obind_some]
  have e : wr ((p.2.2.2.length : Int) - 1) = (p.2.2.2.length : Int) - 1 := wr_len hl
  rw [e, loopR (fun k (a : List (den tHop)) => (k, revK p.1, p.2.1, betaA p p.2.2.2.length, a)) ((p.2.2.2.length : Int) - 1, revK p.1, p.2.1, betaA p p.2.2.2.length, []) [] p.2.2.2 (fun x a => a ++ [x]) List.length (fun _ => 1) 68719476736 (fun a => (revK p.1, p.2.1, betaA p p.2.2.2.length, a)) rfl (by omega) (by rw [sum_one]; simpa using hl) (fun x a => by simp) (fun k x a hi hx hd hw hk hb => by
    simp only [hd, hi, hw, cond_true, obind_some, peta, apOk_le (b := 40) (n := a.length) (m := 1) (by decide) hb]) (fun a => by simp), foldr_map (fun x => x)]
  simp

def revP (p : den tPath) : den tPath := p.reverse.map revPt

theorem i_revP {p : den tPath} (h : SmB 68719476736 tPath p) : i_ReversePath p = some (revP p) := by
  unfold i_ReversePath revP
  have e : wr ((p.length : Int) - 1) = (p.length : Int) - 1 := wr_len h.1
  rw [e, loopR (fun k (a : List (den tPathPart)) => (k, a)) ((p.length : Int) - 1, []) [] p (fun x a => a ++ [revPt x]) List.length (fun _ => 1) 68719476736 id rfl (by have := h.1; omega) (by rw [sum_one]; simpa using h.1) (fun x a => by simp) (fun k x a hi hx hd hw hk hb => by
    have hxl := (h.2 x (List.mem_of_getElem? hx)).2.2.2.1
    simp only [hd, hi, hw, cond_true, obind_some, peta, i_revPt hxl, apOk_le (b := 48) (n := a.length) (m := 1) (by decide) hb]) (fun a => by simp), foldr_map revPt]
  simp

theorem s_revP {p : den tPath} (h : SmB 68719476736 tPath p) : s_ReversePath p = some (revP p) := by
  unfold s_ReversePath revP
  have e : wr ((p.length : Int) - 1) = (p.length : Int) - 1 := wr_len h.1
  rw [e, loopR (fun k (a : List (den tPathPart)) => (k, a)) ((p.length : Int) - 1, []) [] p (fun x a => a ++ [revPt x]) List.length (fun _ => 1) 68719476736 id rfl (by have := h.1; omega) (by rw [sum_one]; simpa using h.1) (fun x a => by simp) (fun k x a hi hx hd hw hk hb => by
    have hxl := (h.2 x (List.mem_of_getElem? hx)).2.2.2.1
    simp only [hd, hi, hw, cond_true, obind_some, peta, s_revPt hxl, apOk_le (b := 48) (n := a.length) (m := 1) (by decide) hb]) (fun a => by simp), foldr_map revPt]
  simp

theorem revPt_tot (p : den tPathPart) : tot tPathPart (revPt p) = tot tPathPart p := by
  show tot ti _ + (tot ti _ + (tot ti _ + tot (.sl tHop) p.2.2.2.reverse)) = tot ti _ + (tot ti _ + (tot ti _ + tot (.sl tHop) p.2.2.2))
  rw [tot_rev]; rfl

theorem tot_map_eq {t : Ty} (g : den t → den t) (hg : ∀ x, tot t (g x) = tot t x) : ∀ l : List (den t), tot (.sl t) (l.map g) = tot (.sl t) l
  | [] => rfl
  | x :: l => by rw [List.map_cons, tot_cons, tot_cons, hg, tot_map_eq g hg l]

theorem revP_tot (p : den tPath) : tot tPath (revP p) = tot tPath p := by
  show tot (.sl tPathPart) (p.reverse.map revPt) = tot (.sl tPathPart) p
  rw [tot_map_eq revPt revPt_tot, tot_rev]

def reply (pk : den tPacket) (kind seq : Int) (pay : List Int) : den tPacket := newPk kind (revP pk.2.2.2.1) pk.2.2.2.2.2.2.2.1 seq pay

theorem i_reply {pk : den tPacket} {kind seq : Int} {pay : List Int} (h : tot tPath pk.2.2.2.1 ≤ 34359738368) (hp : pay.length ≤ 68719476736) : i_Reply pk kind seq pay = some (pkR (reply pk kind seq pay)) := by
  unfold i_Reply reply
  rw [i_revP ((sm_of_tot h).mono (by decide)), obind_some, i_newPk (by rw [revP_tot]; exact h) hp]
  rfl

theorem s_reply {pk : den tPacket} {kind seq : Int} {pay : List Int} (h : tot tPath pk.2.2.2.1 ≤ 34359738368) (hp : pay.length ≤ 68719476736) : s_Reply pk kind seq pay = some (pkR (reply pk kind seq pay)) := by
  unfold s_Reply reply
  rw [s_revP ((sm_of_tot h).mono (by decide)), obind_some, s_newPk (by rw [revP_tot]; exact h) hp]
  rfl

def pk0 : den tPacket := (0, 0, 0, [], 0, 0, 0, 0, 0, [])

/-- A packet and whether there is one, as they are handed back. -/
def pkB (p : den tPacket) (b : Bool) : Int × Int × Int × Int × Int × Int × Int × Int × Bool × (List (den tPathPart)) × (List Int) := (p.1, p.2.1, p.2.2.1, p.2.2.2.2.1, p.2.2.2.2.2.1, p.2.2.2.2.2.2.1, p.2.2.2.2.2.2.2.1, p.2.2.2.2.2.2.2.2.1, b, p.2.2.2.1, p.2.2.2.2.2.2.2.2.2)

def ackB (x : den tInbox) (p : den tPacket) : Bool := comes x p && !decide (p.2.2.2.2.2.2.2.2.1 ≥ x.2.2.1)

def mkAck (x : den tInbox) (p : den tPacket) : den tPacket := if ackB x p then reply p 2 p.2.2.2.2.2.2.2.2.1 [] else pk0

theorem i_mkAck {x : den tInbox} {p : den tPacket} (h : tot tPath p.2.2.2.1 ≤ 34359738368) : i_MakeAck x p = some (pkB (mkAck x p) (ackB x p)) := by
  unfold i_MakeAck mkAck ackB
  simp only [peta, i_comes, obind_some, i_reply (pay := []) h (by simp)]
  cases comes x p <;> cases decide (p.2.2.2.2.2.2.2.2.1 ≥ x.2.2.1) <;> rfl

theorem s_mkAck {x : den tInbox} {p : den tPacket} (h : tot tPath p.2.2.2.1 ≤ 34359738368) : s_MakeAck x p = some (pkB (mkAck x p) (ackB x p)) := by
  unfold s_MakeAck mkAck ackB
  simp only [peta, s_comes, obind_some, s_reply (pay := []) h (by simp)]
  cases comes x p <;> cases decide (p.2.2.2.2.2.2.2.2.1 ≥ x.2.2.1) <;> rfl

theorem newPk_tot {kind res seq : Int} {p : den tPath} {pay : List Int} : tot tPacket (newPk kind p res seq pay) = tot tPath p + tot (.sl tb) pay := by
  show 0 + (0 + (0 + (tot tPath p + (0 + (0 + (0 + (0 + (0 + tot (.sl tb) pay)))))))) = _
  omega

theorem pk_path {p : den tPacket} {N : Nat} (h : tot tPacket p ≤ N) : tot (.sl tPathPart) p.2.2.2.1 ≤ N ∧ tot (.sl tb) p.2.2.2.2.2.2.2.2.2 ≤ N :=
  ⟨tot_l (tot_r (tot_r (tot_r h))), tot_r (tot_r (tot_r (tot_r (tot_r (tot_r (tot_r (tot_r (tot_r h))))))))⟩

theorem mkAck_tot (x : den tInbox) (p : den tPacket) : tot tPacket (mkAck x p) ≤ tot tPacket p := by
  unfold mkAck
  split
  · unfold reply
    rw [newPk_tot, revP_tot]
    have h := (pk_path (Nat.le_refl (tot tPacket p))).1
    show tot (.sl tPathPart) p.2.2.2.1 + 0 ≤ _
    omega
  · exact Nat.zero_le _

end Go.Proofs.Ytmodgmbmbainmaa
