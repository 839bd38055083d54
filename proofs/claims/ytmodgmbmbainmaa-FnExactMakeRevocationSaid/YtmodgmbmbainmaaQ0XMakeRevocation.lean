/-
  Facts and plain laws: what the functions compute, in plain words. Conditions: as each says.
-/
import Derived.Test.YtmodgmbmbainmaaT0XMakeRevocation
set_option linter.unusedVariables false
set_option linter.unusedSimpArgs false
set_option maxRecDepth 100000
namespace Go.Proofs.Ytmodgmbmbainmaa
open Go.Ab Go.V
theorem sz_ASS {l : den (.sl tAS)} {left : Int} (w : Wf (.sl tAS) l) (h0 : 0 ≤ left) (h1 : left ≤ 1048576) : SzT (l_szASS l left) left (tot (.sl tAS) l) := szF_ok (t := tAS) rfl w.1 h0 h1

theorem sz_LinkS {l : den (.sl tLink)} {left : Int} (w : Wf (.sl tLink) l) (h0 : 0 ≤ left) (h1 : left ≤ 1048576) : SzT (l_szLinkS l left) left (tot (.sl tLink) l) := szF_ok (t := tLink) rfl w.1 h0 h1

theorem sz_Topology {x : den tTopology} {left : Int} (w : Wf tTopology x) (h0 : 0 ≤ left) (h1 : left ≤ 1048576) : SzT (l_szTopology x left) left (tot tTopology x) := SzT.eq (sz_field (sz_ASS w.1 h0 h1) h1 fun r0 a0 b0 => sz_field (sz_LinkS w.2 a0 b0) b0 fun r1 a1 b1 => sz_done a1) (by simp [tot, tot_flat] <;> omega)

theorem sz_HopS {l : den (.sl tHop)} {left : Int} (w : Wf (.sl tHop) l) (h0 : 0 ≤ left) (h1 : left ≤ 1048576) : SzT (l_szHopS l left) left (tot (.sl tHop) l) := szF_ok (t := tHop) rfl w.1 h0 h1

theorem sz_PathPart {x : den tPathPart} {left : Int} (w : Wf tPathPart x) (h0 : 0 ≤ left) (h1 : left ≤ 1048576) : SzT (l_szPathPart x left) left (tot tPathPart x) := SzT.eq (sz_field (sz_HopS w.2.2.2 h0 h1) h1 fun r0 a0 b0 => sz_done a0) (by simp [tot, tot_flat])

theorem sz_PathPartS {l : den (.sl tPathPart)} {left : Int} (w : Wf (.sl tPathPart) l) (h0 : 0 ≤ left) (h1 : left ≤ 1048576) : SzT (l_szPathPartS l left) left (tot (.sl tPathPart) l) := szL_ok (t := tPathPart) (szE := l_szPathPart) w.1 h0 h1 fun x hx k k0 k1 => sz_PathPart (w.2 x hx) k0 k1

theorem sz_Path {x : den tPath} {left : Int} (w : Wf tPath x) (h0 : 0 ≤ left) (h1 : left ≤ 1048576) : SzT (l_szPath x left) left (tot tPath x) := SzT.eq (sz_field (sz_PathPartS w h0 h1) h1 fun r0 a0 b0 => sz_done a0) (by simp [tot, tot_flat])

theorem sz_ByteS {l : den (.sl tb)} {left : Int} (w : Wf (.sl tb) l) (h0 : 0 ≤ left) (h1 : left ≤ 1048576) : SzT (l_szByteS l left) left (tot (.sl tb) l) := szF_ok (t := tb) rfl w.1 h0 h1

theorem sz_Packet {x : den tPacket} {left : Int} (w : Wf tPacket x) (h0 : 0 ≤ left) (h1 : left ≤ 1048576) : SzT (l_szPacket x left) left (tot tPacket x) := SzT.eq (sz_field (sz_Path w.2.2.2.1 h0 h1) h1 fun r0 a0 b0 => sz_field (sz_ByteS w.2.2.2.2.2.2.2.2.2 a0 b0) b0 fun r1 a1 b1 => sz_done a1) (by simp [tot, tot_flat] <;> omega)

theorem to_AS {x : den tAS} (h : Sm tAS x) : l_toAS x = some x := by
  unfold l_toAS
  rfl

theorem to_ASS {l : den (.sl tAS)} (h : Sm (.sl tAS) l) : l_toASS l = some l := by
  have : l_toASS l = some (l.map id) := toL_eq (toE := l_toAS) (g := id) h.1 (by decide) fun x hx => to_AS (h.2 x hx)
  simpa using this

theorem to_Link {x : den tLink} (h : Sm tLink x) : l_toLink x = some x := by
  unfold l_toLink
  rfl

theorem to_LinkS {l : den (.sl tLink)} (h : Sm (.sl tLink) l) : l_toLinkS l = some l := by
  have : l_toLinkS l = some (l.map id) := toL_eq (toE := l_toLink) (g := id) h.1 (by decide) fun x hx => to_Link (h.2 x hx)
  simpa using this

theorem to_Topology {x : den tTopology} (h : Sm tTopology x) : l_toTopology x = some x := by
  unfold l_toTopology
  simp [to_ASS h.1, to_LinkS h.2]

theorem to_Hop {x : den tHop} (h : Sm tHop x) : l_toHop x = some x := by
  unfold l_toHop
  rfl

theorem to_HopS {l : den (.sl tHop)} (h : Sm (.sl tHop) l) : l_toHopS l = some l := by
  have : l_toHopS l = some (l.map id) := toL_eq (toE := l_toHop) (g := id) h.1 (by decide) fun x hx => to_Hop (h.2 x hx)
  simpa using this

theorem to_PathPart {x : den tPathPart} (h : Sm tPathPart x) : l_toPathPart x = some x := by
  unfold l_toPathPart
  simp [to_HopS h.2.2.2]

theorem to_PathPartS {l : den (.sl tPathPart)} (h : Sm (.sl tPathPart) l) : l_toPathPartS l = some l := by
  have : l_toPathPartS l = some (l.map id) := toL_eq (toE := l_toPathPart) (g := id) h.1 (by decide) fun x hx => to_PathPart (h.2 x hx)
  simpa using this

theorem to_Path {x : den tPath} (h : Sm tPath x) : l_toPath x = some x := by
  unfold l_toPath
  simp [to_PathPartS h]

theorem to_ByteS {l : den (.sl tb)} (h : Sm (.sl tb) l) : l_toByteS l = some l := by
  have : l_toByteS l = some (l.map id) := toL_eq (toE := some) (g := id) h.1 (by decide) fun x hx => rfl
  simpa using this

theorem to_Packet {x : den tPacket} (h : Sm tPacket x) : l_toPacket x = some (x.1, x.2.1, x.2.2.1, x.2.2.2.2.1, x.2.2.2.2.2.1, x.2.2.2.2.2.2.1, x.2.2.2.2.2.2.2.1, x.2.2.2.2.2.2.2.2.1, x.2.2.2.1, x.2.2.2.2.2.2.2.2.2) := by
  unfold l_toPacket
  simp only [to_Path h.2.2.2.1, to_ByteS h.2.2.2.2.2.2.2.2.2, obind_some, peta]

theorem eq_Hop {x : den tHop} (h : SmB 4611686018427387904 tHop x) : l_eqHop x x = some true := by
  unfold l_eqHop
  simp

theorem eq_HopS {l : den (.sl tHop)} (h : SmB 4611686018427387904 (.sl tHop) l) : l_eqHopS l l = some true := eqL_refl (eqE := l_eqHop) h.1 fun x hx => eq_Hop (h.2 x hx)

theorem eq_PathPart {x : den tPathPart} (h : SmB 4611686018427387904 tPathPart x) : l_eqPathPart x x = some true := by
  unfold l_eqPathPart
  simp [eq_HopS h.2.2.2]

theorem eq_PathPartS {l : den (.sl tPathPart)} (h : SmB 4611686018427387904 (.sl tPathPart) l) : l_eqPathPartS l l = some true := eqL_refl (eqE := l_eqPathPart) h.1 fun x hx => eq_PathPart (h.2 x hx)

theorem eq_Path {x : den tPath} (h : SmB 4611686018427387904 tPath x) : l_eqPath x x = some true := by
  unfold l_eqPath
  simp [eq_PathPartS h]

theorem eq_ByteS {l : den (.sl tb)} (h : SmB 4611686018427387904 (.sl tb) l) : l_eqByteS l l = some true := eqL_refl (eqE := (fun x y => some (x == y))) h.1 fun x hx => by simp

theorem eq_Packet {x : den tPacket} (h : SmB 4611686018427387904 tPacket x) : l_eqPacket x x = some true := by
  unfold l_eqPacket
  simp [eq_Path h.2.2.2.1, eq_ByteS h.2.2.2.2.2.2.2.2.2]

theorem eq_AS {x : den tAS} (h : SmB 4611686018427387904 tAS x) : l_eqAS x x = some true := by
  unfold l_eqAS
  simp

theorem eq_ASS {l : den (.sl tAS)} (h : SmB 4611686018427387904 (.sl tAS) l) : l_eqASS l l = some true := eqL_refl (eqE := l_eqAS) h.1 fun x hx => eq_AS (h.2 x hx)

theorem eq_Link {x : den tLink} (h : SmB 4611686018427387904 tLink x) : l_eqLink x x = some true := by
  unfold l_eqLink
  simp

theorem eq_LinkS {l : den (.sl tLink)} (h : SmB 4611686018427387904 (.sl tLink) l) : l_eqLinkS l l = some true := eqL_refl (eqE := l_eqLink) h.1 fun x hx => eq_Link (h.2 x hx)

theorem eq_Topology {x : den tTopology} (h : SmB 4611686018427387904 tTopology x) : l_eqTopology x x = some true := by
  unfold l_eqTopology
  simp [eq_ASS h.1, eq_LinkS h.2]

theorem mark_ASS {l : den (.sl tAS)} {k : Int} (h : SmB 4611686018427387904 (.sl tAS) l) (hk : 0 ≤ k) (hb : k + ((lv (.sl tAS) l : Nat) : Int) ≤ 4611686018427387904) : l_markASS l k = some (k + ((lv (.sl tAS) l : Nat) : Int), mkT (.sl tAS) l k) := by
  have hc := cntAll_sum (lv tAS) l
  have hc : k + ((cntAll (lv tAS) l : Nat) : Int) = k + ((lv (.sl tAS) l : Nat) : Int) := by rw [hc]; rfl
  unfold l_markASS
  rw [mark0 (cE := lv tAS) (mE := mkT tAS) (SmB 4611686018427387904 tAS) (fun k i L x hx hi hN hk hb hp => by
      have hd : decide ((i : Int) < (L.length : Int)) = true := by simpa using hi
      have hd0 : decide ((0 : Int) ≤ (i : Int)) = true := by simp
      have hw : IntKind.i64.wrap ((i : Int) + 1) = ((i + 1 : Nat) : Int) := by rw [wrap_in (by omega) (by omega)]; omega
      have hl : k + ((lv tAS x : Nat) : Int) = k + 1 + 1 + 1 := by simp only [lv] <;> omega
      rw [hl] at hb
      rw [hl]
      have hE : mkT tAS x k = (k, Int.tmod (k + 1) 3 == 0, k + 1 + 1) := by first | rfl | (simp [mkT, lv]; try omega)
      have f0 : IntKind.i64.wrap (k + 1) = k + 1 := wrap_in (by omega) (by omega)
      have f1 : IntKind.i64.wrap (k + 1 + 1) = k + 1 + 1 := wrap_in (by omega) (by omega)
      have f2 : IntKind.i64.wrap (k + 1 + 1 + 1) = k + 1 + 1 + 1 := wrap_in (by omega) (by omega)
      rw [hE]
      simp only [hd, hd0, hw, cond_true, Int.toNat_natCast, hx, obind_some, List.length_set, List.getElem?_set_self hi, List.set_set, f0, f1, f2]) (fun k L => by simp) h.1 h.2 hk (by rw [hc]; exact hb), hc]
  rfl

theorem mark_LinkS {l : den (.sl tLink)} {k : Int} (h : SmB 4611686018427387904 (.sl tLink) l) (hk : 0 ≤ k) (hb : k + ((lv (.sl tLink) l : Nat) : Int) ≤ 4611686018427387904) : l_markLinkS l k = some (k + ((lv (.sl tLink) l : Nat) : Int), mkT (.sl tLink) l k) := by
  have hc := cntAll_sum (lv tLink) l
  have hc : k + ((cntAll (lv tLink) l : Nat) : Int) = k + ((lv (.sl tLink) l : Nat) : Int) := by rw [hc]; rfl
  unfold l_markLinkS
  rw [mark0 (cE := lv tLink) (mE := mkT tLink) (SmB 4611686018427387904 tLink) (fun k i L x hx hi hN hk hb hp => by
      have hd : decide ((i : Int) < (L.length : Int)) = true := by simpa using hi
      have hd0 : decide ((0 : Int) ≤ (i : Int)) = true := by simp
      have hw : IntKind.i64.wrap ((i : Int) + 1) = ((i + 1 : Nat) : Int) := by rw [wrap_in (by omega) (by omega)]; omega
      have hl : k + ((lv tLink x : Nat) : Int) = k + 1 + 1 + 1 + 1 + 1 := by simp only [lv] <;> omega
      rw [hl] at hb
      rw [hl]
      have hE : mkT tLink x k = (k, k + 1, k + 1 + 1, k + 1 + 1 + 1, k + 1 + 1 + 1 + 1) := by first | rfl | (simp [mkT, lv]; try omega)
      have f0 : IntKind.i64.wrap (k + 1) = k + 1 := wrap_in (by omega) (by omega)
      have f1 : IntKind.i64.wrap (k + 1 + 1) = k + 1 + 1 := wrap_in (by omega) (by omega)
      have f2 : IntKind.i64.wrap (k + 1 + 1 + 1) = k + 1 + 1 + 1 := wrap_in (by omega) (by omega)
      have f3 : IntKind.i64.wrap (k + 1 + 1 + 1 + 1) = k + 1 + 1 + 1 + 1 := wrap_in (by omega) (by omega)
      have f4 : IntKind.i64.wrap (k + 1 + 1 + 1 + 1 + 1) = k + 1 + 1 + 1 + 1 + 1 := wrap_in (by omega) (by omega)
      rw [hE]
      simp only [hd, hd0, hw, cond_true, Int.toNat_natCast, hx, obind_some, List.length_set, List.getElem?_set_self hi, List.set_set, f0, f1, f2, f3, f4]) (fun k L => by simp) h.1 h.2 hk (by rw [hc]; exact hb), hc]
  rfl

theorem mark_Topology {x : den tTopology} {k : Int} (h : SmB 4611686018427387904 tTopology x) (hk : 0 ≤ k) (hb : k + ((lv (.sl tAS) x.1 : Nat) : Int) + ((lv (.sl tLink) x.2 : Nat) : Int) ≤ 4611686018427387904) : l_markTopology x k = some (k + ((lv (.sl tAS) x.1 : Nat) : Int) + ((lv (.sl tLink) x.2 : Nat) : Int), mkT (.sl tAS) x.1 (k), mkT (.sl tLink) x.2 (k + ((lv (.sl tAS) x.1 : Nat) : Int))) := by
  have q0 := mark_ASS (l := x.1) (k := k) h.1 (by omega) (by omega)
  have q1 := mark_LinkS (l := x.2) (k := k + ((lv (.sl tAS) x.1 : Nat) : Int)) h.2 (by omega) (by omega)
  unfold l_markTopology
  simp only [q0, q1, obind_some, peta]

theorem mark_HopS {l : den (.sl tHop)} {k : Int} (h : SmB 4611686018427387904 (.sl tHop) l) (hk : 0 ≤ k) (hb : k + ((lv (.sl tHop) l : Nat) : Int) ≤ 4611686018427387904) : l_markHopS l k = some (k + ((lv (.sl tHop) l : Nat) : Int), mkT (.sl tHop) l k) := by
  have hc := cntAll_sum (lv tHop) l
  have hc : k + ((cntAll (lv tHop) l : Nat) : Int) = k + ((lv (.sl tHop) l : Nat) : Int) := by rw [hc]; rfl
  unfold l_markHopS
  rw [mark0 (cE := lv tHop) (mE := mkT tHop) (SmB 4611686018427387904 tHop) (fun k i L x hx hi hN hk hb hp => by
      have hd : decide ((i : Int) < (L.length : Int)) = true := by simpa using hi
      have hd0 : decide ((0 : Int) ≤ (i : Int)) = true := by simp
      have hw : IntKind.i64.wrap ((i : Int) + 1) = ((i + 1 : Nat) : Int) := by rw [wrap_in (by omega) (by omega)]; omega
      have hl : k + ((lv tHop x : Nat) : Int) = k + 1 + 1 + 1 + 1 + 1 := by simp only [lv] <;> omega
      rw [hl] at hb
      rw [hl]
      have hE : mkT tHop x k = (k, k + 1, k + 1 + 1, k + 1 + 1 + 1, k + 1 + 1 + 1 + 1) := by first | rfl | (simp [mkT, lv]; try omega)
      have f0 : IntKind.i64.wrap (k + 1) = k + 1 := wrap_in (by omega) (by omega)
      have f1 : IntKind.i64.wrap (k + 1 + 1) = k + 1 + 1 := wrap_in (by omega) (by omega)
      have f2 : IntKind.i64.wrap (k + 1 + 1 + 1) = k + 1 + 1 + 1 := wrap_in (by omega) (by omega)
      have f3 : IntKind.i64.wrap (k + 1 + 1 + 1 + 1) = k + 1 + 1 + 1 + 1 := wrap_in (by omega) (by omega)
      have f4 : IntKind.i64.wrap (k + 1 + 1 + 1 + 1 + 1) = k + 1 + 1 + 1 + 1 + 1 := wrap_in (by omega) (by omega)
      rw [hE]
      simp only [hd, hd0, hw, cond_true, Int.toNat_natCast, hx, obind_some, List.length_set, List.getElem?_set_self hi, List.set_set, f0, f1, f2, f3, f4]) (fun k L => by simp) h.1 h.2 hk (by rw [hc]; exact hb), hc]
  rfl

theorem mark_PathPartS {l : den (.sl tPathPart)} {k : Int} (h : SmB 4611686018427387904 (.sl tPathPart) l) (hk : 0 ≤ k) (hb : k + ((lv (.sl tPathPart) l : Nat) : Int) ≤ 4611686018427387904) : l_markPathPartS l k = some (k + ((lv (.sl tPathPart) l : Nat) : Int), mkT (.sl tPathPart) l k) := by
  have hc := cntAll_sum (lv tPathPart) l
  have hc : k + ((cntAll (lv tPathPart) l : Nat) : Int) = k + ((lv (.sl tPathPart) l : Nat) : Int) := by rw [hc]; rfl
  unfold l_markPathPartS
  rw [mark0 (cE := lv tPathPart) (mE := mkT tPathPart) (SmB 4611686018427387904 tPathPart) (fun k i L x hx hi hN hk hb hp => by
      have hd : decide ((i : Int) < (L.length : Int)) = true := by simpa using hi
      have hd0 : decide ((0 : Int) ≤ (i : Int)) = true := by simp
      have hw : IntKind.i64.wrap ((i : Int) + 1) = ((i + 1 : Nat) : Int) := by rw [wrap_in (by omega) (by omega)]; omega
      have hl : k + ((lv tPathPart x : Nat) : Int) = k + 1 + 1 + 1 + ((lv (.sl tHop) x.2.2.2 : Nat) : Int) := by simp only [lv] <;> omega
      rw [hl] at hb
      rw [hl]
      have hE : mkT tPathPart x k = (k, k + 1, k + 1 + 1, mkT (.sl tHop) x.2.2.2 (k + 1 + 1 + 1)) := by first | rfl | (simp [mkT, lv]; try omega)
      have f0 : IntKind.i64.wrap (k + 1) = k + 1 := wrap_in (by omega) (by omega)
      have f1 : IntKind.i64.wrap (k + 1 + 1) = k + 1 + 1 := wrap_in (by omega) (by omega)
      have f2 : IntKind.i64.wrap (k + 1 + 1 + 1) = k + 1 + 1 + 1 := wrap_in (by omega) (by omega)
      have f3 := mark_HopS (l := x.2.2.2) (k := k + 1 + 1 + 1) hp.2.2.2 (by omega) (by omega)
      rw [hE]
      simp only [hd, hd0, hw, cond_true, Int.toNat_natCast, hx, obind_some, List.length_set, List.getElem?_set_self hi, List.set_set, f0, f1, f2, f3]) (fun k L => by simp) h.1 h.2 hk (by rw [hc]; exact hb), hc]
  rfl

theorem mark_Path {x : den tPath} {k : Int} (h : SmB 4611686018427387904 tPath x) (hk : 0 ≤ k) (hb : k + ((lv (.sl tPathPart) x : Nat) : Int) ≤ 4611686018427387904) : l_markPath x k = some (k + ((lv (.sl tPathPart) x : Nat) : Int), mkT (.sl tPathPart) x (k)) := by
  have q0 := mark_PathPartS (l := x) (k := k) h (by omega) (by omega)
  unfold l_markPath
  simp only [q0, obind_some, peta]

theorem mark_ByteS {l : den (.sl tb)} {k : Int} (h : SmB 4611686018427387904 (.sl tb) l) (hk : 0 ≤ k) (hb : k + ((lv (.sl tb) l : Nat) : Int) ≤ 4611686018427387904) : l_markByteS l k = some (k + ((lv (.sl tb) l : Nat) : Int), mkT (.sl tb) l k) := by
  have hc := cntAll_sum (lv tb) l
  have hc : k + ((cntAll (lv tb) l : Nat) : Int) = k + ((lv (.sl tb) l : Nat) : Int) := by rw [hc]; rfl
  unfold l_markByteS
  rw [mark0 (cE := lv tb) (mE := mkT tb) (SmB 4611686018427387904 tb) (fun k i L x hx hi hN hk hb hp => by
      have hd : decide ((i : Int) < (L.length : Int)) = true := by simpa using hi
      have hd0 : decide ((0 : Int) ≤ (i : Int)) = true := by simp
      have hw : IntKind.i64.wrap ((i : Int) + 1) = ((i + 1 : Nat) : Int) := by rw [wrap_in (by omega) (by omega)]; omega
      have hl : k + ((lv tb x : Nat) : Int) = k + 1 := by simp only [lv] <;> omega
      rw [hl] at hb
      rw [hl]
      have hE : mkT tb x k = IntKind.u8.wrap (k) := by first | rfl | (simp [mkT, lv]; try omega)
      have f0 : IntKind.i64.wrap (k + 1) = k + 1 := wrap_in (by omega) (by omega)
      rw [hE]
      simp only [hd, hd0, hw, cond_true, Int.toNat_natCast, hx, obind_some, List.length_set, List.getElem?_set_self hi, List.set_set, f0]) (fun k L => by simp) h.1 h.2 hk (by rw [hc]; exact hb), hc]
  rfl

theorem mark_Packet {x : den tPacket} {k : Int} (h : SmB 4611686018427387904 tPacket x) (hk : 0 ≤ k) (hb : k + ((lv (.sl tPathPart) x.2.2.2.1 : Nat) : Int) + ((lv (.sl tb) x.2.2.2.2.2.2.2.2.2 : Nat) : Int) ≤ 4611686018427387904) : l_markPacket x k = some (k + ((lv (.sl tPathPart) x.2.2.2.1 : Nat) : Int) + ((lv (.sl tb) x.2.2.2.2.2.2.2.2.2 : Nat) : Int), mkT (.sl tPathPart) x.2.2.2.1 (k), mkT (.sl tb) x.2.2.2.2.2.2.2.2.2 (k + ((lv (.sl tPathPart) x.2.2.2.1 : Nat) : Int))) := by
  have q0 := mark_Path (x := x.2.2.2.1) (k := k) h.2.2.2.1 (by omega) (by omega)
  have q1 := mark_ByteS (l := x.2.2.2.2.2.2.2.2.2) (k := k + ((lv (.sl tPathPart) x.2.2.2.1 : Nat) : Int)) h.2.2.2.2.2.2.2.2.2 (by omega) (by omega)
  unfold l_markPacket
  simp only [q0, q1, obind_some, peta]

theorem held_HopS {l : den (.sl tHop)} {k : Int} (h : SmB 4611686018427387904 (.sl tHop) l) (hk : 0 ≤ k) (hb : k + ((lv (.sl tHop) l : Nat) : Int) ≤ 4611686018427387904) : l_heldHopS (mkT (.sl tHop) l k) k = some (k + ((lv (.sl tHop) l : Nat) : Int)) := by
  have hc := cntAll_sum (lv tHop) l
  have hc : k + ((cntAll (lv tHop) l : Nat) : Int) = k + ((lv (.sl tHop) l : Nat) : Int) := by rw [hc]; rfl
  unfold l_heldHopS
  have := held0 (cE := lv tHop) (mE := mkT tHop) (SmB 4611686018427387904 tHop) (fun (a_a : List (den tHop)) => fun (s7 : Int × Int) => cond (decide (s7.2 < (a_a.length : Int))) (Option.bind (idx a_a s7.2) fun x8 => cond (x8.1 != s7.1) (some (Sum.inr (Sum.inr (-1 : Int)))) (Option.bind (idx a_a s7.2) fun x9 => cond (x9.2.1 != (wr (s7.1 + (1 : Int)))) (some (Sum.inr (Sum.inr (-1 : Int)))) (Option.bind (idx a_a s7.2) fun x10 => cond (x10.2.2.1 != (wr ((wr (s7.1 + (1 : Int))) + (1 : Int)))) (some (Sum.inr (Sum.inr (-1 : Int)))) (Option.bind (idx a_a s7.2) fun x11 => cond (x11.2.2.2.1 != (wr ((wr ((wr (s7.1 + (1 : Int))) + (1 : Int))) + (1 : Int)))) (some (Sum.inr (Sum.inr (-1 : Int)))) (Option.bind (idx a_a s7.2) fun x12 => cond (x12.2.2.2.2 != (wr ((wr ((wr ((wr (s7.1 + (1 : Int))) + (1 : Int))) + (1 : Int))) + (1 : Int)))) (some (Sum.inr (Sum.inr (-1 : Int)))) (some (Sum.inl (wr ((wr ((wr ((wr ((wr (s7.1 + (1 : Int))) + (1 : Int))) + (1 : Int))) + (1 : Int))) + (1 : Int)), wr (s7.2 + (1 : Int)))))))))) (some (Sum.inr (Sum.inl s7.1)))) (l := l) (k := k) (fun k i L x hx hi hN hk hb hp => by
      have hd : decide ((i : Int) < (L.length : Int)) = true := by simpa using hi
      have hd0 : decide ((0 : Int) ≤ (i : Int)) = true := by simp
      have hw : IntKind.i64.wrap ((i : Int) + 1) = ((i + 1 : Nat) : Int) := by rw [wrap_in (by omega) (by omega)]; omega
      have hl : k + ((lv tHop x : Nat) : Int) = k + 1 + 1 + 1 + 1 + 1 := by simp only [lv] <;> omega
      rw [hl] at hb
      rw [hl]
      have hE : mkT tHop x k = (k, k + 1, k + 1 + 1, k + 1 + 1 + 1, k + 1 + 1 + 1 + 1) := by first | rfl | (simp [mkT, lv]; try omega)
      have f0 : IntKind.i64.wrap (k + 1) = k + 1 := wrap_in (by omega) (by omega)
      have f1 : IntKind.i64.wrap (k + 1 + 1) = k + 1 + 1 := wrap_in (by omega) (by omega)
      have f2 : IntKind.i64.wrap (k + 1 + 1 + 1) = k + 1 + 1 + 1 := wrap_in (by omega) (by omega)
      have f3 : IntKind.i64.wrap (k + 1 + 1 + 1 + 1) = k + 1 + 1 + 1 + 1 := wrap_in (by omega) (by omega)
      have f4 : IntKind.i64.wrap (k + 1 + 1 + 1 + 1 + 1) = k + 1 + 1 + 1 + 1 + 1 := wrap_in (by omega) (by omega)
      rw [hE] at hx
      have hi2 : idx L (i : Int) = some (k, k + 1, k + 1 + 1, k + 1 + 1 + 1, k + 1 + 1 + 1 + 1) := by rw [idx_nat]; exact hx
      simp only [hd, hw, hi2, cond_true, obind_some, bne_self_eq_false, cond_false, f0, f1, f2, f3, f4]) (fun k L => by simp) h.1 h.2 hk (by rw [hc]; exact hb)
  rw [hc] at this
  show Option.bind (loopM _ (k, (0 : Int))) _ = _
  rw [show (mkT (.sl tHop) l k) = markAll (lv tHop) (mkT tHop) l k from rfl, this]
  rfl

theorem held_PathPartS {l : den (.sl tPathPart)} {k : Int} (h : SmB 4611686018427387904 (.sl tPathPart) l) (hk : 0 ≤ k) (hb : k + ((lv (.sl tPathPart) l : Nat) : Int) ≤ 4611686018427387904) : l_heldPathPartS (mkT (.sl tPathPart) l k) k = some (k + ((lv (.sl tPathPart) l : Nat) : Int)) := by
  have hc := cntAll_sum (lv tPathPart) l
  have hc : k + ((cntAll (lv tPathPart) l : Nat) : Int) = k + ((lv (.sl tPathPart) l : Nat) : Int) := by rw [hc]; rfl
  unfold l_heldPathPartS
  have := held0 (cE := lv tPathPart) (mE := mkT tPathPart) (SmB 4611686018427387904 tPathPart) (fun (a_a : List (den tPathPart)) => fun (s7 : Int × Int) => cond (decide (s7.2 < (a_a.length : Int))) (Option.bind (idx a_a s7.2) fun x8 => cond (x8.1 != s7.1) (some (Sum.inr (Sum.inr (-1 : Int)))) (Option.bind (idx a_a s7.2) fun x9 => cond (x9.2.1 != (wr (s7.1 + (1 : Int)))) (some (Sum.inr (Sum.inr (-1 : Int)))) (Option.bind (idx a_a s7.2) fun x10 => cond (x10.2.2.1 != (wr ((wr (s7.1 + (1 : Int))) + (1 : Int)))) (some (Sum.inr (Sum.inr (-1 : Int)))) (Option.bind (idx a_a s7.2) fun x11 => Option.bind (l_heldHopS x11.2.2.2 (wr ((wr ((wr (s7.1 + (1 : Int))) + (1 : Int))) + (1 : Int)))) fun y12 => cond (decide (y12 < (0 : Int))) (some (Sum.inr (Sum.inr (-1 : Int)))) (some (Sum.inl (y12, wr (s7.2 + (1 : Int))))))))) (some (Sum.inr (Sum.inl s7.1)))) (l := l) (k := k) (fun k i L x hx hi hN hk hb hp => by
      have hd : decide ((i : Int) < (L.length : Int)) = true := by simpa using hi
      have hd0 : decide ((0 : Int) ≤ (i : Int)) = true := by simp
      have hw : IntKind.i64.wrap ((i : Int) + 1) = ((i + 1 : Nat) : Int) := by rw [wrap_in (by omega) (by omega)]; omega
      have hl : k + ((lv tPathPart x : Nat) : Int) = k + 1 + 1 + 1 + ((lv (.sl tHop) x.2.2.2 : Nat) : Int) := by simp only [lv] <;> omega
      rw [hl] at hb
      rw [hl]
      have hE : mkT tPathPart x k = (k, k + 1, k + 1 + 1, mkT (.sl tHop) x.2.2.2 (k + 1 + 1 + 1)) := by first | rfl | (simp [mkT, lv]; try omega)
      have f0 : IntKind.i64.wrap (k + 1) = k + 1 := wrap_in (by omega) (by omega)
      have f1 : IntKind.i64.wrap (k + 1 + 1) = k + 1 + 1 := wrap_in (by omega) (by omega)
      have f2 : IntKind.i64.wrap (k + 1 + 1 + 1) = k + 1 + 1 + 1 := wrap_in (by omega) (by omega)
      have f3 := held_HopS (l := x.2.2.2) (k := k + 1 + 1 + 1) hp.2.2.2 (by omega) (by omega)
      have g3 : decide (k + 1 + 1 + 1 + ((lv (.sl tHop) x.2.2.2 : Nat) : Int) < 0) = false := by simp <;> omega
      rw [hE] at hx
      have hi2 : idx L (i : Int) = some (k, k + 1, k + 1 + 1, mkT (.sl tHop) x.2.2.2 (k + 1 + 1 + 1)) := by rw [idx_nat]; exact hx
      simp only [hd, hw, hi2, cond_true, obind_some, bne_self_eq_false, cond_false, f0, f1, f2, f3, g3]) (fun k L => by simp) h.1 h.2 hk (by rw [hc]; exact hb)
  rw [hc] at this
  show Option.bind (loopM _ (k, (0 : Int))) _ = _
  rw [show (mkT (.sl tPathPart) l k) = markAll (lv tPathPart) (mkT tPathPart) l k from rfl, this]
  rfl

theorem held_Path {x : den tPath} {k : Int} (h : SmB 4611686018427387904 tPath x) (hk : 0 ≤ k) (hb : k + ((lv (.sl tPathPart) x : Nat) : Int) ≤ 4611686018427387904) : l_heldPath (mkT (.sl tPathPart) x (k)) k = some (k + ((lv (.sl tPathPart) x : Nat) : Int)) := by
  have q0 := held_PathPartS (l := x) (k := k) h (by omega) (by omega)
  have d0 : decide (k + ((lv (.sl tPathPart) x : Nat) : Int) < 0) = false := by simp <;> omega
  unfold l_heldPath
  simp only [q0, d0, obind_some, peta, cond_false]

theorem held_ByteS {l : den (.sl tb)} {k : Int} (h : SmB 4611686018427387904 (.sl tb) l) (hk : 0 ≤ k) (hb : k + ((lv (.sl tb) l : Nat) : Int) ≤ 4611686018427387904) : l_heldByteS (mkT (.sl tb) l k) k = some (k + ((lv (.sl tb) l : Nat) : Int)) := by
  have hc := cntAll_sum (lv tb) l
  have hc : k + ((cntAll (lv tb) l : Nat) : Int) = k + ((lv (.sl tb) l : Nat) : Int) := by rw [hc]; rfl
  unfold l_heldByteS
  have := held0 (cE := lv tb) (mE := mkT tb) (SmB 4611686018427387904 tb) (fun (a_a : List Int) => fun (s3 : Int × Int) => cond (decide (s3.2 < (a_a.length : Int))) (Option.bind (idx a_a s3.2) fun x4 => cond (x4 != (IntKind.wrap .u8 s3.1)) (some (Sum.inr (Sum.inr (-1 : Int)))) (some (Sum.inl (wr (s3.1 + (1 : Int)), wr (s3.2 + (1 : Int)))))) (some (Sum.inr (Sum.inl s3.1)))) (l := l) (k := k) (fun k i L x hx hi hN hk hb hp => by
      have hd : decide ((i : Int) < (L.length : Int)) = true := by simpa using hi
      have hd0 : decide ((0 : Int) ≤ (i : Int)) = true := by simp
      have hw : IntKind.i64.wrap ((i : Int) + 1) = ((i + 1 : Nat) : Int) := by rw [wrap_in (by omega) (by omega)]; omega
      have hl : k + ((lv tb x : Nat) : Int) = k + 1 := by simp only [lv] <;> omega
      rw [hl] at hb
      rw [hl]
      have hE : mkT tb x k = IntKind.u8.wrap (k) := by first | rfl | (simp [mkT, lv]; try omega)
      have f0 : IntKind.i64.wrap (k + 1) = k + 1 := wrap_in (by omega) (by omega)
      rw [hE] at hx
      have hi2 : idx L (i : Int) = some (IntKind.u8.wrap (k)) := by rw [idx_nat]; exact hx
      simp only [hd, hw, hi2, cond_true, obind_some, bne_self_eq_false, cond_false, f0]) (fun k L => by simp) h.1 h.2 hk (by rw [hc]; exact hb)
  rw [hc] at this
  show Option.bind (loopM _ (k, (0 : Int))) _ = _
  rw [show (mkT (.sl tb) l k) = markAll (lv tb) (mkT tb) l k from rfl, this]
  rfl

theorem held_Packet {x : den tPacket} {k : Int} (h : SmB 4611686018427387904 tPacket x) (hk : 0 ≤ k) (hb : k + ((lv (.sl tPathPart) x.2.2.2.1 : Nat) : Int) + ((lv (.sl tb) x.2.2.2.2.2.2.2.2.2 : Nat) : Int) ≤ 4611686018427387904) : l_heldPacket (x.1, x.2.1, x.2.2.1, mkT (.sl tPathPart) x.2.2.2.1 (k), x.2.2.2.2.1, x.2.2.2.2.2.1, x.2.2.2.2.2.2.1, x.2.2.2.2.2.2.2.1, x.2.2.2.2.2.2.2.2.1, mkT (.sl tb) x.2.2.2.2.2.2.2.2.2 (k + ((lv (.sl tPathPart) x.2.2.2.1 : Nat) : Int))) k = some (k + ((lv (.sl tPathPart) x.2.2.2.1 : Nat) : Int) + ((lv (.sl tb) x.2.2.2.2.2.2.2.2.2 : Nat) : Int)) := by
  have q0 := held_Path (x := x.2.2.2.1) (k := k) h.2.2.2.1 (by omega) (by omega)
  have q1 := held_ByteS (l := x.2.2.2.2.2.2.2.2.2) (k := k + ((lv (.sl tPathPart) x.2.2.2.1 : Nat) : Int)) h.2.2.2.2.2.2.2.2.2 (by omega) (by omega)
  have d0 : decide (k + ((lv (.sl tPathPart) x.2.2.2.1 : Nat) : Int) < 0) = false := by simp <;> omega
  have d1 : decide (k + ((lv (.sl tPathPart) x.2.2.2.1 : Nat) : Int) + ((lv (.sl tb) x.2.2.2.2.2.2.2.2.2 : Nat) : Int) < 0) = false := by simp <;> omega
  unfold l_heldPacket
  simp only [q0, q1, d0, d1, obind_some, peta, cond_false]

def inR (n a b : Int) : Bool := decide (a ≤ n) && decide (n ≤ b)

theorem i_in (n a b : Int) : i_InRange n a b = some (inR n a b) := by
  unfold i_InRange inR
  by_cases h : a ≤ n <;> simp [h]

theorem s_in (n a b : Int) : s_l1In n a b = some (inR n a b) := by
  unfold s_l1In inR
  by_cases h : a ≤ n <;> simp [h]

theorem inR_iff {n a b : Int} : inR n a b = true ↔ a ≤ n ∧ n ≤ b := by simp [inR]

theorem i_min (a b : Int) : i_Min a b = some (if b < a then b else a) := rfl

theorem s_min (a b : Int) : s_Min a b = some (if b < a then b else a) := by
  unfold s_Min
  by_cases h : b < a <;> simp [h]

theorem i_copyB {b : List Int} (h : b.length ≤ 68719476736) : i_copyBytes b = some b := by
  unfold i_copyBytes
  rw [apOk_le (by decide) (by simpa using h)]; simp

theorem i_copyH {l : List (den tHop)} (h : l.length ≤ 68719476736) : i_copyHops l = some l := by
  unfold i_copyHops
  rw [apOk_le (by decide) (by simpa using h)]; simp

theorem s_copyPt {p : den tPathPart} (h : SmB 68719476736 tPathPart p) : s_l21Copy p = some p := by
  unfold s_l21Copy
  rw [apOk_le (by decide) (by simpa using h.2.2.2.1)]; simp

theorem i_copyP {p : den tPath} (h : SmB 68719476736 tPath p) : i_copyPath p = some p := by
  unfold i_copyPath
  rw [(loopF (fun k (a : List (den tPathPart)) => ((k : Int), a)) ((0 : Int), []) [] p (fun _ x a => a ++ [x]) List.length (fun _ => 1) 68719476736 id rfl (Nat.le_trans h.1 (by decide)) (by rw [sum_one]; simpa using h.1) (fun k x a hi hx hd hw hk hb => by
    have e := h.2 x (List.mem_of_getElem? hx)
    simp only [hd, hi, hw, cond_true, obind_some, i_copyH e.2.2.2.1, peta, apOk_le (b := 48) (by decide) hb]
    simp) (fun a => by simp)).1, foldI_map (fun x => x)]
  simp

theorem s_copyP {p : den tPath} (h : SmB 68719476736 tPath p) : s_l22Copy p = some p := by
  unfold s_l22Copy
  rw [(loopF (fun k (a : List (den tPathPart)) => ((k : Int), a)) ((0 : Int), []) [] p (fun _ x a => a ++ [x]) List.length (fun _ => 1) 68719476736 id rfl (Nat.le_trans h.1 (by decide)) (by rw [sum_one]; simpa using h.1) (fun k x a hi hx hd hw hk hb => by
    have e := h.2 x (List.mem_of_getElem? hx)
    simp only [hd, hi, hw, cond_true, obind_some, peta, s_copyPt e, apOk_le (b := 48) (by decide) hb]
    simp) (fun a => by simp)).1, foldI_map (fun x => x)]
  simp

def validV (x : den tRevocation) : Bool := inR x.1 0 7 && (inR x.2.1 1 6 && inR x.2.2 0 1000000)

theorem i_validV (x : den tRevocation) : i_ValidRevocation x = some (validV x) := by
  unfold i_ValidRevocation validV
  simp only [i_in, obind_some]
  cases inR x.1 0 7 <;> cases inR x.2.1 1 6 <;> cases inR x.2.2 0 1000000 <;> rfl

theorem s_validV (x : den tRevocation) : s_ValidRevocation x = some (validV x) := by
  unfold s_ValidRevocation validV
  simp only [s_in, obind_some]
  cases inR x.1 0 7 <;> cases inR x.2.1 1 6 <;> cases inR x.2.2 0 1000000 <;> rfl

def isRev (k : Int) : Bool := k == 1 || k == 3

theorem i_isRev (k : Int) : i_IsReversed k = some (isRev k) := by
  unfold i_IsReversed isRev
  cases k == 1 <;> rfl

theorem s_isRev (k : Int) : s_IsReversed k = some (isRev k) := by
  unfold s_IsReversed isRev
  cases k == 1 <;> rfl

def pIn (p : den tPathPart) (h : den tHop) : Int := if isRev p.1 then h.2.2.1 else h.2.1

def pEg (p : den tPathPart) (h : den tHop) : Int := if isRev p.1 then h.2.1 else h.2.2.1

theorem wr_len {n : Nat} (h : n ≤ 68719476736) : wr ((n : Int) - 1) = (n : Int) - 1 := wrap_in (by omega) (by omega)

theorem inR_idx {k n : Nat} (h : k < n) : inR (k : Int) 0 ((n : Int) - 1) = true := by rw [inR_iff]; omega

theorem i_pIn {p : den tPathPart} {k : Nat} {h : den tHop} (hk : p.2.2.2[k]? = some h) (hl : p.2.2.2.length ≤ 68719476736) : i_PartIngress p (k : Int) = some (pIn p h) := by
  have hlt : k < p.2.2.2.length := (List.getElem?_eq_some_iff.1 hk).1
  unfold i_PartIngress pIn
  simp only [i_in, wr_len hl, inR_idx hlt, obind_some, Bool.not_true, cond_false, i_isRev, idx_nat, hk]
  cases isRev p.1 <;> rfl

theorem s_pIn {p : den tPathPart} {k : Nat} {h : den tHop} (hk : p.2.2.2[k]? = some h) (hl : p.2.2.2.length ≤ 68719476736) : s_PartIngress p (k : Int) = some (pIn p h) := by
  have hlt : k < p.2.2.2.length := (List.getElem?_eq_some_iff.1 hk).1
  unfold s_PartIngress pIn
  simp only [s_in, wr_len hl, inR_idx hlt, obind_some, Bool.not_true, cond_false, s_isRev, idx_nat, hk]
  cases isRev p.1 <;> rfl

theorem i_pEg {p : den tPathPart} {k : Nat} {h : den tHop} (hk : p.2.2.2[k]? = some h) (hl : p.2.2.2.length ≤ 68719476736) : i_PartEgress p (k : Int) = some (pEg p h) := by
  have hlt : k < p.2.2.2.length := (List.getElem?_eq_some_iff.1 hk).1
  unfold i_PartEgress pEg
  simp only [i_in, wr_len hl, inR_idx hlt, obind_some, Bool.not_true, cond_false, i_isRev, idx_nat, hk]
  cases isRev p.1 <;> rfl

theorem s_pEg {p : den tPathPart} {k : Nat} {h : den tHop} (hk : p.2.2.2[k]? = some h) (hl : p.2.2.2.length ≤ 68719476736) : s_PartEgress p (k : Int) = some (pEg p h) := by
  have hlt : k < p.2.2.2.length := (List.getElem?_eq_some_iff.1 hk).1
  unfold s_PartEgress pEg
  simp only [s_in, wr_len hl, inR_idx hlt, obind_some, Bool.not_true, cond_false, s_isRev, idx_nat, hk]
  cases isRev p.1 <;> rfl

def addS (nf : Bool) (p : den tPathPart) (i : Nat) (h : den tHop) (out : List (den tStep)) : List (den tStep) :=
  match out.getLast? with
  | some z => if nf && (decide (i = 0) && z.1 == h.1) then out.dropLast ++ [(h.1, z.2.1, pEg p h)] else out ++ [(h.1, pIn p h, pEg p h)]
  | none => out ++ [(h.1, pIn p h, pEg p h)]

theorem addS_len (nf : Bool) (p : den tPathPart) (i : Nat) (h : den tHop) (out : List (den tStep)) : (addS nf p i h out).length ≤ out.length + 1 := by
  unfold addS
  split
  · split
    · simp only [List.length_append, List.length_dropLast, List.length_singleton]; omega
    · simp
  · simp

def partS (nf : Bool) (p : den tPathPart) (a : List (den tStep)) : List (den tStep) := foldI (fun i h b => addS nf p i h b) 0 p.2.2.2 a

def steps0 (p : den tPath) : List (den tStep) := foldI (fun k x a => partS (decide (0 < k)) x a) 0 p []

def endS (l : List (den tStep)) : List (den tStep) :=
  match l with
  | [] => []
  | x :: xs => let m := (x.1, 0, x.2.2) :: xs
    match m.getLast? with
    | some y => m.dropLast ++ [(y.1, y.2.1, 0)]
    | none => []

def steps (p : den tPath) : List (den tStep) := endS (steps0 p)

theorem endS_len (l : List (den tStep)) : (endS l).length = l.length := by
  unfold endS
  split
  · rfl
  · rename_i x xs
    simp only
    rw [List.getLast?_eq_some_getLast (by simp)]
    simp

theorem hops_sum (p : den tPath) : (p.map fun x => x.2.2.2.length).sum ≤ tot tPath p := by
  show _ ≤ tot (.sl tPathPart) p
  rw [← tot_sum]
  induction p with
  | nil => exact Nat.le_refl _
  | cons x p ih =>
    simp only [List.map_cons, List.sum_cons]
    have h1 : x.2.2.2.length ≤ tot tPathPart x := by
      show _ ≤ tot ti x.1 + (tot ti x.2.1 + (tot ti x.2.2.1 + tot (.sl tHop) x.2.2.2))
      rw [tot_flatL rfl]; omega
    omega

theorem wr_pos {n : Nat} (h : n ≤ 68719476736) (h0 : 0 < n) : wr ((n : Int) - 1) = ((n - 1 : Nat) : Int) := by
  rw [wr_len h]; omega

theorem wr_last {α : Type} {m : List α} {z : α} (h : (m ++ [z]).length ≤ 68719476736) : wr (((m ++ [z]).length : Int) - 1) = (m.length : Int) := by
  rw [wr_pos h (by simp)]; simp

theorem partS_len (nf : Bool) (p : den tPathPart) (a : List (den tStep)) : (partS nf p a).length ≤ a.length + p.2.2.2.length := by
  have := foldI_m (m := List.length) (cost := fun _ => 1) (fun i h b => addS_len nf p i h b) p.2.2.2 0 a
  rw [sum_one] at this
  exact this

theorem steps0_len (p : den tPath) : (steps0 p).length ≤ tot tPath p := by
  have := foldI_m (m := List.length) (cost := fun x : den tPathPart => x.2.2.2.length) (fun k x a => partS_len (decide (0 < k)) x a) p 0 []
  have h2 := hops_sum p
  have h3 : (steps0 p).length ≤ 0 + (p.map fun x => x.2.2.2.length).sum := this
  omega

theorem steps_len (p : den tPath) : (steps p).length ≤ tot tPath p := by
  unfold steps; rw [endS_len]; exact steps0_len p

theorem dec_pos (k : Nat) : decide ((k : Int) > 0) = decide (0 < k) := by rw [Bool.eq_iff_iff]; simp

theorem dec_zero (i : Nat) : ((i : Int) == 0) = decide (i = 0) := by rw [Bool.eq_iff_iff]; simp

theorem addS_nil (nf : Bool) (p : den tPathPart) (i : Nat) (h : den tHop) : addS nf p i h [] = [(h.1, pIn p h, pEg p h)] := rfl

theorem addS_last (nf : Bool) (p : den tPathPart) (i : Nat) (h : den tHop) (m : List (den tStep)) (z : den tStep) : addS nf p i h (m ++ [z]) = if nf && (decide (i = 0) && z.1 == h.1) then m ++ [(h.1, z.2.1, pEg p h)] else (m ++ [z]) ++ [(h.1, pIn p h, pEg p h)] := by
  unfold addS
  rw [List.getLast?_concat, List.dropLast_concat]

theorem endS_some {m : List (den tStep)} {x z : den tStep} {xs : List (den tStep)} (h : (x.1, (0 : Int), x.2.2) :: xs = m ++ [z]) : endS (x :: xs) = m ++ [(z.1, z.2.1, 0)] := by
  unfold endS
  simp only
  rw [h, List.getLast?_concat, List.dropLast_concat]

theorem i_steps {p : den tPath} (h : tot tPath p ≤ 34359738368) : i_PathSteps p = some (steps p) := by
  have hs := hops_sum p
  have sm : SmB 34359738368 tPath p := sm_of_tot h
  have hl := steps0_len p
  unfold i_PathSteps
  rw [loopG (fun k (a : List (den tStep)) => ((k : Int), a)) ((0 : Int), []) [] p (fun k x a => partS (decide (0 < k)) x a) List.length (fun x => x.2.2.2.length) 34359738368 id rfl (Nat.le_trans sm.1 (by decide)) (by simp only [List.length_nil]; omega) (fun k x a => partS_len _ x a) (fun k x a hi hx hd hw hk hb => by
    have hxl : x.2.2.2.length ≤ 34359738368 := (sm.2 x (List.mem_of_getElem? hx)).2.2.2.1
    simp only [hd, hi, hw, cond_true, obind_some]
    rw [loopG (fun i (b : List (den tStep)) => ((i : Int), b)) ((0 : Int), a) a x.2.2.2 (fun i h b => addS (decide (0 < k)) x i h b) List.length (fun _ => 1) 34359738368 id rfl (Nat.le_trans hxl (by decide)) (by rw [sum_one]; exact hb) (fun i h b => addS_len _ x i h b) (fun i g b hi2 hg hd2 hw2 hk2 hb2 => by
      have hl2 : x.2.2.2.length ≤ 68719476736 := by omega
      simp only [hd2, hi2, hw2, cond_true, obind_some, peta, i_pIn hg hl2, i_pEg hg hl2, dec_pos, dec_zero, apOk_le (b := 24) (n := b.length) (m := 1) (by decide) (by omega)]
      rcases nil_or_concat b with rfl | ⟨m, z, rfl⟩
      · rw [addS_nil]
        cases decide (0 < k) <;> cases decide (i = 0) <;> rfl
      · rw [addS_last, wr_last (by omega)]
        simp only [pos_nat, pos_nat', lt_last, get_last, cond_true, Int.toNat_natCast, obind_some, set_last]
        cases decide (0 < k) <;> cases decide (i = 0) <;> cases hz : z.1 == g.1 <;> simp [hz]
        simpa using hz) (fun b => by simp)]
    rfl) (fun a => by simp)]
  simp only [obind_some, id]
  rw [show foldI (fun k x a => partS (decide (0 < k)) x a) 0 p [] = steps0 p from rfl]
  show _ = some (endS (steps0 p))
  generalize steps0 p = l at hl
  cases l with
  | nil => rfl
  | cons x xs =>
    have e1 : decide ((((x :: xs).length : Nat) : Int) > 0) = true := by simp
    have e2 : decide ((0 : Int) < (((x :: xs).length : Nat) : Int)) = true := by simp
    have e3 : (0 : Int).toNat = 0 := rfl
    have e4 : decide ((0 : Int) ≤ 0) = true := rfl
    simp only [e1, e2, e3, e4, cond_true, List.getElem?_cons_zero, obind_some, List.set_cons_zero]
    rcases nil_or_concat ((x.1, (0 : Int), x.2.2) :: xs) with h0 | ⟨m, z, hm⟩
    · cases h0
    · have hlen : ((x.1, (0 : Int), x.2.2) :: xs).length = (x :: xs).length := rfl
      rw [endS_some hm]
      rw [hm] at hlen ⊢
      rw [wr_last (by omega)]
      simp only [pos_nat, lt_last, get_last, cond_true, Int.toNat_natCast, obind_some, set_last]

theorem s_steps {p : den tPath} (h : tot tPath p ≤ 34359738368) : s_PathSteps p = some (steps p) := by
  have hs := hops_sum p
  have sm : SmB 34359738368 tPath p := sm_of_tot h
  have hl := steps0_len p
  unfold s_PathSteps
  rw [loopG (fun k (a : List (den tStep)) => ((k : Int), a)) ((0 : Int), []) [] p (fun k x a => partS (decide (0 < k)) x a) List.length (fun x => x.2.2.2.length) 34359738368 id rfl (Nat.le_trans sm.1 (by decide)) (by simp only [List.length_nil]; omega) (fun k x a => partS_len _ x a) (fun k x a hi hx hd hw hk hb => by
    have hxl : x.2.2.2.length ≤ 34359738368 := (sm.2 x (List.mem_of_getElem? hx)).2.2.2.1
    simp only [hd, hi, hw, cond_true, obind_some]
    rw [loopG (fun i (b : List (den tStep)) => ((i : Int), b)) ((0 : Int), a) a x.2.2.2 (fun i h b => addS (decide (0 < k)) x i h b) List.length (fun _ => 1) 34359738368 id rfl (Nat.le_trans hxl (by decide)) (by rw [sum_one]; exact hb) (fun i h b => addS_len _ x i h b) (fun i g b hi2 hg hd2 hw2 hk2 hb2 => by
      have hl2 : x.2.2.2.length ≤ 68719476736 := by omega
      simp only [hd2, hi2, hw2, cond_true, obind_some, peta, s_pIn hg hl2, s_pEg hg hl2, both_self, dec_pos, dec_zero]
      rcases nil_or_concat b with rfl | ⟨m, z, rfl⟩
      · rw [addS_nil]
        cases decide (0 < k) <;> cases decide (i = 0) <;> rfl
      · rw [addS_last, wr_last (by omega)]
        have e1 : decide (((m ++ [z]).length : Int) > 0) = true := by simp
        have e2 : slOk (0 : Int) (m.length : Int) ((m ++ [z]).length : Int) = true := by simp [slOk]; omega
        have e3 : (m ++ [z]).take m.length = m := by simp
        have e4 := apOk_le (b := 24) (n := m.length) (m := 1) (by decide) (by simp at hb2; omega)
        have e5 := apOk_le (b := 24) (n := m.length + 1) (m := 1) (by decide) (by simp at hb2; omega)
        simp only [pos_nat, e1, e2, e3, lt_last, get_last, cond_true, Int.toNat_natCast, obind_some]
        cases decide (0 < k) <;> cases decide (i = 0) <;> cases hz : z.1 == g.1 <;> simp [hz, e4, e5]) (fun b => by simp [hi])]
    rfl) (fun a => by simp)]
  simp only [obind_some, id]
  rw [show foldI (fun k x a => partS (decide (0 < k)) x a) 0 p [] = steps0 p from rfl]
  show _ = some (endS (steps0 p))
  generalize steps0 p = l at hl
  cases l with
  | nil => rfl
  | cons x xs =>
    have e1 : decide ((((x :: xs).length : Nat) : Int) > 0) = true := by simp
    have e2 : decide ((0 : Int) < (((x :: xs).length : Nat) : Int)) = true := by simp
    have e3 : (0 : Int).toNat = 0 := rfl
    have e4 : decide ((0 : Int) ≤ 0) = true := rfl
    have e5 : decide (0 < (x :: xs).length) = true := by simp
    simp only [e1, e2, e3, e4, e5, cond_true, List.getElem?_cons_zero, obind_some, List.set_cons_zero]
    rcases nil_or_concat ((x.1, (0 : Int), x.2.2) :: xs) with h0 | ⟨m, z, hm⟩
    · cases h0
    · have hlen : ((x.1, (0 : Int), x.2.2) :: xs).length = (x :: xs).length := rfl
      rw [endS_some hm]
      rw [hm] at hlen ⊢
      rw [wr_last (by omega)]
      have e6 : decide (m.length < (m ++ [z]).length) = true := by simp
      simp only [pos_nat, lt_last, get_last, e6, cond_true, Int.toNat_natCast, obind_some, set_last]

def ends (p : den tPath) : Int × Int :=
  match (steps p).head?, (steps p).getLast? with
  | some x, some y => (x.1, y.1)
  | _, _ => (-1, -1)

theorem i_ends {p : den tPath} (h : tot tPath p ≤ 34359738368) : i_Endpoints p = some (ends p) := by
  unfold i_Endpoints ends
  have hl := steps_len p
  rw [i_steps h, obind_some]
  generalize steps p = l at hl
  rcases nil_or_concat l with rfl | ⟨m, z, rfl⟩
  · rfl
  · rw [wr_last (by omega)]
    have e1 : (((m ++ [z]).length : Int) == 0) = false := by simp <;> omega
    have e2 : decide ((0 : Int) < ((m ++ [z]).length : Int)) = true := by simp <;> omega
    have e3 : decide ((0 : Int) ≤ 0) = true := rfl
    rw [e1, e2, e3, pos_nat, lt_last, List.getLast?_concat]
    cases m with
    | nil => rfl
    | cons x m => simp

theorem s_ends {p : den tPath} (h : tot tPath p ≤ 34359738368) : s_Endpoints p = some (ends p) := by
  unfold s_Endpoints ends
  have hl := steps_len p
  rw [s_steps h, obind_some]
  generalize steps p = l at hl
  rcases nil_or_concat l with rfl | ⟨m, z, rfl⟩
  · rfl
  · rw [wr_last (by omega)]
    have e1 : (((m ++ [z]).length : Int) == 0) = false := by simp <;> omega
    have e2 : decide ((0 : Int) < ((m ++ [z]).length : Int)) = true := by simp <;> omega
    have e3 : decide ((0 : Int) ≤ 0) = true := rfl
    rw [e1, e2, e3, pos_nat, lt_last, List.getLast?_concat]
    cases m with
    | nil => rfl
    | cons x m => simp

/-- A packet as it is handed back: its slices last. -/
def pkR (p : den tPacket) : Int × Int × Int × Int × Int × Int × Int × Int × (List (den tPathPart)) × (List Int) := (p.1, p.2.1, p.2.2.1, p.2.2.2.2.1, p.2.2.2.2.2.1, p.2.2.2.2.2.2.1, p.2.2.2.2.2.2.2.1, p.2.2.2.2.2.2.2.2.1, p.2.2.2.1, p.2.2.2.2.2.2.2.2.2)

def beta0 (p : den tPath) : Int := match p with
  | [] => 0
  | x :: _ => x.2.2.1

def newPk (kind : Int) (p : den tPath) (res seq : Int) (pay : List Int) : den tPacket := (kind, (ends p).1, (ends p).2, p, 0, 0, beta0 p, res, seq, pay)

theorem i_newPk {kind res seq : Int} {p : den tPath} {pay : List Int} (h : tot tPath p ≤ 34359738368) (hp : pay.length ≤ 68719476736) : i_NewPacket kind p res seq pay = some (pkR (newPk kind p res seq pay)) := by
  unfold i_NewPacket
  rw [i_copyP ((sm_of_tot h).mono (by decide)), i_copyB hp, i_ends h]
  simp only [obind_some]
  cases p with
  | nil => rfl
  | cons x p =>
    have e1 : decide (((x :: p).length : Int) > 0) = true := by simp
    rw [e1]; rfl

theorem s_newPk {kind res seq : Int} {p : den tPath} {pay : List Int} (h : tot tPath p ≤ 34359738368) (hp : pay.length ≤ 68719476736) : s_NewPacket kind p res seq pay = some (pkR (newPk kind p res seq pay)) := by
  unfold s_NewPacket
  rw [s_copyP ((sm_of_tot h).mono (by decide)), s_ends h, apOk_le (b := 1) (n := ([] : List Int).length) (by decide) (by simpa using hp)]
  simp only [obind_some, cond_true, List.nil_append]
  cases p with
  | nil => rfl
  | cons x p =>
    have e1 : decide (((x :: p).length : Int) > 0) = true := by simp
    rw [e1]; rfl

def revK (k : Int) : Int := if k = 1 then 4 else if k = 4 then 1 else if k = 2 then 3 else if k = 3 then 2 else k

theorem i_revK (k : Int) : i_ReverseKind k = some (revK k) := by
  unfold i_ReverseKind revK
  by_cases h1 : k = 1
  · subst h1; rfl
  by_cases h2 : k = 4
  · subst h2; rfl
  by_cases h3 : k = 2
  · subst h3; rfl
  by_cases h4 : k = 3
  · subst h4; rfl
  have b1 : (k == 1) = false := by simpa using h1
  have b2 : (k == 4) = false := by simpa using h2
  have b3 : (k == 2) = false := by simpa using h3
  have b4 : (k == 3) = false := by simpa using h4
  rw [b1, b2, b3, b4, if_neg h1, if_neg h2, if_neg h3, if_neg h4]; rfl

theorem s_revK (k : Int) : s_ReverseKind k = some (revK k) := i_revK k

def resid (n : Int) : Bool := inR n 0 2147483646

theorem i_resid (n : Int) : i_isResidue n = some (resid n) := by unfold i_isResidue resid; rw [i_in]; rfl

theorem s_resid (n : Int) : s_l3Ok n = some (resid n) := by unfold s_l3Ok resid; rw [s_in]; rfl

def addM (b s : Int) : Int := if resid b && resid s then Int.tmod (wr (b + s)) 2147483647 else 0

def subM (b s : Int) : Int := if resid b && resid s then Int.tmod (wr ((wr (b - s)) + 2147483647)) 2147483647 else 0

theorem i_addM (b s : Int) : i_AddMod b s = some (addM b s) := by
  unfold i_AddMod addM
  simp only [i_resid, obind_some]
  cases resid b <;> cases resid s <;> rfl

theorem s_addM (b s : Int) : s_AddMod b s = some (addM b s) := by
  unfold s_AddMod addM
  simp only [s_resid, obind_some]
  cases resid b <;> cases resid s <;> rfl

theorem i_subM (b s : Int) : i_SubMod b s = some (subM b s) := by
  unfold i_SubMod subM
  simp only [i_resid, obind_some]
  cases resid b <;> cases resid s <;> rfl

theorem s_subM (b s : Int) : s_SubMod b s = some (subM b s) := by
  unfold s_SubMod subM
  simp only [s_resid, obind_some]
  cases resid b <;> cases resid s <;> rfl

def betaStep (k : Int) (b : Int) (h : den tHop) : Int := if isRev k then subM b h.2.2.2.2 else addM b h.2.2.2.2

def betaA (p : den tPathPart) (n : Nat) : Int := (p.2.2.2.take n).foldl (betaStep p.1) p.2.2.1

theorem i_betaA {p : den tPathPart} {n : Nat} (hn : n ≤ p.2.2.2.length) (hl : p.2.2.2.length ≤ 68719476736) : i_BetaAfter p (n : Int) = some (betaA p n) := by
  unfold i_BetaAfter betaA
  have e1 : inR (n : Int) 0 (p.2.2.2.length : Int) = true := by rw [inR_iff]; omega
  have e2 : slOk (0 : Int) (n : Int) (p.2.2.2.length : Int) = true := by simp [slOk]; omega
  rw [i_in, e1, obind_some, e2, cut_take]
  have hlen : (p.2.2.2.take n).length ≤ 4611686018427387904 := by rw [List.length_take]; omega
  rw [loopG (fun k (b : Int) => (b, (k : Int))) (p.2.2.1, (0 : Int)) p.2.2.1 (p.2.2.2.take n) (fun _ h b => betaStep p.1 b h) (fun _ => 0) (fun _ => 0) 0 id rfl hlen (by rw [sum_nil]; exact Nat.le_refl _) (fun _ _ _ => Nat.le_refl _) (fun k x b hi hx hd hw hk hb => by
    simp only [hd, hi, hw, cond_true, obind_some, i_isRev, i_subM, i_addM, betaStep]
    cases isRev p.1 <;> rfl) (fun b => by simp), foldI_foldl (fun b h => betaStep p.1 b h)]
  rfl

theorem s_betaA {p : den tPathPart} {n : Nat} (hn : n ≤ p.2.2.2.length) (hl : p.2.2.2.length ≤ 68719476736) : s_BetaAfter p (n : Int) = some (betaA p n) := by
  unfold s_BetaAfter betaA
  have e1 : inR (n : Int) 0 (p.2.2.2.length : Int) = true := by rw [inR_iff]; omega
  have e3 : (p.2.2.2.take n).length = n := by rw [List.length_take]; omega
  rw [s_in, e1, obind_some]
  rw [loopG (fun k (b : Int) => (b, (k : Int))) (p.2.2.1, (0 : Int)) p.2.2.1 (p.2.2.2.take n) (fun _ h b => betaStep p.1 b h) (fun _ => 0) (fun _ => 0) 0 id rfl (by rw [e3]; omega) (by rw [sum_nil]; exact Nat.le_refl _) (fun _ _ _ => Nat.le_refl _) (fun k x b hi hx hd hw hk hb => by
    have hx' : p.2.2.2[k]? = some x := by rw [List.getElem?_take] at hx; split at hx; exact hx; cases hx
    rw [e3] at hd
    simp only [hd, hw, cond_true, obind_some, idx_nat, hx', s_isRev, s_subM, s_addM, betaStep]
    cases isRev p.1 <;> rfl) (fun b => by rw [e3]; simp), foldI_foldl (fun b h => betaStep p.1 b h)]
  rfl

def revPt (p : den tPathPart) : den tPathPart := (revK p.1, p.2.1, betaA p p.2.2.2.length, p.2.2.2.reverse)

theorem i_revH {l : List (den tHop)} (hl : l.length ≤ 68719476736) : i_reversedHops l = some l.reverse := by
  unfold i_reversedHops
  have e : wr ((l.length : Int) - 1) = (l.length : Int) - 1 := wr_len hl
  rw [e, loopR (fun k (a : List (den tHop)) => (k, a)) ((l.length : Int) - 1, []) [] l (fun x a => a ++ [x]) List.length (fun _ => 1) 68719476736 id rfl (by omega) (by rw [sum_one]; simpa using hl) (fun x a => by simp) (fun k x a hi hx hd hw hk hb => by
    simp only [hd, hi, hw, cond_true, obind_some, peta, apOk_le (b := 40) (n := a.length) (m := 1) (by decide) hb]) (fun a => by simp), foldr_map (fun x => x)]
  simp

theorem i_revPt {p : den tPathPart} (hl : p.2.2.2.length ≤ 68719476736) : i_ReversePart p = some (revPt p) := by
  unfold i_ReversePart revPt
  simp only [i_revK, peta, i_betaA (Nat.le_refl _) hl, i_revH hl, obind_some]

theorem s_revPt {p : den tPathPart} (hl : p.2.2.2.length ≤ 68719476736) : s_ReversePart p = some (revPt p) := by
  unfold s_ReversePart revPt
  simp only [s_revK, peta, s_betaA (Nat.le_refl _) hl, both_self, obind_some]
  have e : wr ((p.2.2.2.length : Int) - 1) = (p.2.2.2.length : Int) - 1 := wr_len hl
  rw [e, loopR (fun k (a : List (den tHop)) => (k, revK p.1, p.2.1, betaA p p.2.2.2.length, a)) ((p.2.2.2.length : Int) - 1, revK p.1, p.2.1, betaA p p.2.2.2.length, []) [] p.2.2.2 (fun x a => a ++ [x]) List.length (fun _ => 1) 68719476736 (fun a => (revK p.1, p.2.1, betaA p p.2.2.2.length, a)) rfl (by omega) (by rw [sum_one]; simpa using hl) (fun x a => by simp) (fun k x a hi hx hd hw hk hb => by
    simp only [hd, hi, hw, cond_true, obind_some, peta, apOk_le (b := 40) (n := a.length) (m := 1) (by decide) hb]) (fun a => by simp), foldr_map (fun x => x)]
  simp

def revP (p : den tPath) : den tPath := p.reverse.map revPt

theorem i_revP {p : den tPath} (h : SmB 68719476736 tPath p) : i_ReversePath p = some (revP p) := by
  unfold i_ReversePath revP
  have e : wr ((p.length : Int) - 1) = (p.length : Int) - 1 := wr_len h.1
  rw [e, loopR (fun k (a : List (den tPathPart)) => (k, a)) ((p.length : Int) - 1, []) [] p (fun x a => a ++ [revPt x]) List.length (fun _ => 1) 68719476736 id rfl (by have := h.1; omega) (by rw [sum_one]; simpa using h.1) (fun x a => by simp) (fun k x a hi hx hd hw hk hb => by
    have hxl := (h.2 x (List.mem_of_getElem? hx)).2.2.2.1
    simp only [hd, hi, hw, cond_true, obind_some, peta, i_revPt hxl, apOk_le (b := 48) (n := a.length) (m := 1) (by decide) hb]) (fun a => by simp), foldr_map revPt]
  simp

theorem s_revP {p : den tPath} (h : SmB 68719476736 tPath p) : s_ReversePath p = some (revP p) := by
  unfold s_ReversePath revP
  have e : wr ((p.length : Int) - 1) = (p.length : Int) - 1 := wr_len h.1
  rw [e, loopR (fun k (a : List (den tPathPart)) => (k, a)) ((p.length : Int) - 1, []) [] p (fun x a => a ++ [revPt x]) List.length (fun _ => 1) 68719476736 id rfl (by have := h.1; omega) (by rw [sum_one]; simpa using h.1) (fun x a => by simp) (fun k x a hi hx hd hw hk hb => by
    have hxl := (h.2 x (List.mem_of_getElem? hx)).2.2.2.1
    simp only [hd, hi, hw, cond_true, obind_some, peta, s_revPt hxl, apOk_le (b := 48) (n := a.length) (m := 1) (by decide) hb]) (fun a => by simp), foldr_map revPt]
  simp

theorem revPt_tot (p : den tPathPart) : tot tPathPart (revPt p) = tot tPathPart p := by
  show tot ti _ + (tot ti _ + (tot ti _ + tot (.sl tHop) p.2.2.2.reverse)) = tot ti _ + (tot ti _ + (tot ti _ + tot (.sl tHop) p.2.2.2))
  rw [tot_rev]; rfl

theorem tot_map_eq {t : Ty} (g : den t → den t) (hg : ∀ x, tot t (g x) = tot t x) : ∀ l : List (den t), tot (.sl t) (l.map g) = tot (.sl t) l
  | [] => rfl
  | x :: l => by rw [List.map_cons, tot_cons, tot_cons, hg, tot_map_eq g hg l]

theorem revP_tot (p : den tPath) : tot tPath (revP p) = tot tPath p := by
  show tot (.sl tPathPart) (p.reverse.map revPt) = tot (.sl tPathPart) p
  rw [tot_map_eq revPt revPt_tot, tot_rev]

def hasHop (p : den tPacket) : Bool := inR p.2.2.2.2.1 0 ((p.2.2.2.1.length : Int) - 1) && inR p.2.2.2.2.2.1 0 (((((p.2.2.2.1[p.2.2.2.2.1.toNat]?).getD (0, 0, 0, [])).2.2.2.length : Nat) : Int) - 1)

def curAS (p : den tPacket) : Int := if hasHop p then ((((p.2.2.2.1[p.2.2.2.2.1.toNat]?).getD (0, 0, 0, [])).2.2.2[p.2.2.2.2.2.1.toNat]?).getD (0, 0, 0, 0, 0)).1 else -1

theorem hasHop_iff {p : den tPacket} (h : hasHop p = true) : ∃ (i j : Nat) (x : den tPathPart) (y : den tHop), p.2.2.2.2.1 = (i : Int) ∧ p.2.2.2.2.2.1 = (j : Int) ∧ p.2.2.2.1[i]? = some x ∧ x.2.2.2[j]? = some y ∧ curAS p = y.1 := by
  have h' := h
  unfold hasHop at h'
  simp only [Bool.and_eq_true, inR_iff] at h'
  obtain ⟨⟨h1, h2⟩, h3, h4⟩ := h'
  obtain ⟨x, hx⟩ := get_some h1 h2
  rw [hx, Option.getD_some] at h4
  obtain ⟨y, hy⟩ := get_some h3 h4
  refine ⟨p.2.2.2.2.1.toNat, p.2.2.2.2.2.1.toNat, x, y, (Int.toNat_of_nonneg h1).symm, (Int.toNat_of_nonneg h3).symm, hx, hy, ?_⟩
  unfold curAS
  rw [h, if_pos rfl, hx, Option.getD_some, hy, Option.getD_some]

theorem curAS_no {p : den tPacket} (c : hasHop p = false) : curAS p = -1 := by unfold curAS; rw [c]; rfl

theorem i_hop {p : den tPacket} (h : SmB 68719476736 tPacket p) : i_hasHop p = some (hasHop p) := by
  unfold i_hasHop hasHop
  have l1 := h.2.2.2.1.1
  rw [i_in, wr_len l1, obind_some]
  cases c1 : inR p.2.2.2.2.1 0 ((p.2.2.2.1.length : Int) - 1) with
  | false => rfl
  | true =>
    rw [inR_iff] at c1
    obtain ⟨x, hx⟩ := get_some c1.1 c1.2
    rw [idx_of c1.1 hx, hx]
    have l2 := (h.2.2.2.1.2 _ (List.mem_of_getElem? hx)).2.2.2.1
    simp only [cond_true, obind_some, i_in, wr_len l2, Option.getD_some, Bool.true_and]

theorem i_curAS {p : den tPacket} (h : SmB 68719476736 tPacket p) : i_CurrentAS p = some (curAS p) := by
  unfold i_CurrentAS
  simp only [peta, i_hop h, obind_some]
  cases c : hasHop p with
  | false => rw [curAS_no c]; rfl
  | true =>
    obtain ⟨i, j, x, y, h1, h2, h3, h4, h5⟩ := hasHop_iff c
    rw [h1, h2, h5]
    simp only [Bool.not_true, cond_false, idx_nat, h3, h4, obind_some]

theorem s_curAS {p : den tPacket} (h : SmB 68719476736 tPacket p) : s_CurrentAS p = some (curAS p) := by
  unfold s_CurrentAS
  have l1 := h.2.2.2.1.1
  rw [s_in, wr_len l1, obind_some]
  cases c1 : inR p.2.2.2.2.1 0 ((p.2.2.2.1.length : Int) - 1) with
  | false => rw [curAS_no (by unfold hasHop; rw [c1]; rfl)]; rfl
  | true =>
    have c1' := c1
    rw [inR_iff] at c1'
    obtain ⟨x, hx⟩ := get_some c1'.1 c1'.2
    rw [idx_of c1'.1 hx]
    have l2 := (h.2.2.2.1.2 _ (List.mem_of_getElem? hx)).2.2.2.1
    simp only [Bool.not_true, cond_false, obind_some, s_in, wr_len l2]
    cases c2 : inR p.2.2.2.2.2.1 0 ((x.2.2.2.length : Int) - 1) with
    | false => rw [curAS_no (by unfold hasHop; rw [c1, hx, Option.getD_some, c2]; rfl)]; rfl
    | true =>
      have c : hasHop p = true := by unfold hasHop; rw [c1, hx, Option.getD_some, c2]; rfl
      rw [inR_iff] at c2
      obtain ⟨y, hy⟩ := get_some c2.1 c2.2
      rw [idx_of c2.1 hy]
      unfold curAS
      rw [c, if_pos rfl, hx, Option.getD_some, hy, Option.getD_some]
      rfl

def truncAt (p : den tPath) (i j : Nat) : den tPath :=
  match p[i]? with
  | some x => p.take i ++ [(x.1, x.2.1, x.2.2.1, x.2.2.2.take (j + 1))]
  | none => []

def truncP (p : den tPacket) : den tPath := if curAS p < 0 then [] else truncAt p.2.2.2.1 p.2.2.2.2.1.toNat p.2.2.2.2.2.1.toNat

theorem i_truncP {p : den tPacket} (h : SmB 68719476736 tPacket p) : i_TruncatePath p = some (truncP p) := by
  unfold i_TruncatePath truncP
  simp only [peta, i_curAS h, obind_some]
  by_cases hc : curAS p < 0
  · rw [decide_eq_true hc, cond_true, if_pos hc]
  · rw [decide_eq_false hc, cond_false, if_neg hc]
    cases c : hasHop p with
    | false => rw [curAS_no c] at hc; exact absurd (by decide) hc
    | true =>
      obtain ⟨i, j, x, y, h1, h2, h3, h4, h5⟩ := hasHop_iff c
      have l1 := h.2.2.2.1.1
      have l2 := (h.2.2.2.1.2 _ (List.mem_of_getElem? h3)).2.2.2.1
      have hi := (List.getElem?_eq_some_iff.1 h3).1
      have hj := (List.getElem?_eq_some_iff.1 h4).1
      have e1 : wr ((i : Int) + 1) = ((i + 1 : Nat) : Int) := by have : wr ((i : Int) + 1) = (i : Int) + 1 := wrap_in (by omega) (by omega); rw [this]; rfl
      have e2 : wr ((j : Int) + 1) = ((j + 1 : Nat) : Int) := by have : wr ((j : Int) + 1) = (j : Int) + 1 := wrap_in (by omega) (by omega); rw [this]; rfl
      have e3 : slOk (0 : Int) ((i + 1 : Nat) : Int) (p.2.2.2.1.length : Int) = true := by simp [slOk]; omega
      have e4 : slOk (0 : Int) ((j + 1 : Nat) : Int) (x.2.2.2.length : Int) = true := by simp [slOk]; omega
      have e5 : p.2.2.2.1.take (i + 1) = p.2.2.2.1.take i ++ [x] := take_succ h3
      have e6 : (p.2.2.2.1.take i).length = i := by rw [List.length_take]; omega
      rw [h1, h2, e1, e2, i_copyP h.2.2.2.1, obind_some, e3, cond_true]
      simp only [Int.toNat_natCast, e5]
      have e7 : decide ((i : Int) < ((p.2.2.2.1.take i ++ [x]).length : Int)) = true := by simp; omega
      have e8 : (p.2.2.2.1.take i ++ [x])[i]? = some x := by rw [List.getElem?_append_right (by omega), e6]; simp
      have e9 : ∀ z, (p.2.2.2.1.take i ++ [x]).set i z = p.2.2.2.1.take i ++ [z] := fun z => by rw [List.set_append_right _ _ (by omega), e6]; simp
      simp only [pos_nat, e7, e8, e4, e9, cond_true, obind_some, cut_take]
      unfold truncAt
      rw [h3]

theorem s_truncP {p : den tPacket} (h : SmB 68719476736 tPacket p) : s_TruncatePath p = some (truncP p) := by
  unfold s_TruncatePath truncP
  simp only [peta, s_curAS h, obind_some]
  by_cases hc : curAS p < 0
  · rw [decide_eq_true hc, cond_true, if_pos hc]
  · rw [decide_eq_false hc, cond_false, if_neg hc]
    cases c : hasHop p with
    | false => rw [curAS_no c] at hc; exact absurd (by decide) hc
    | true =>
      obtain ⟨i, j, x, y, h1, h2, h3, h4, h5⟩ := hasHop_iff c
      have l1 := h.2.2.2.1.1
      have hi := (List.getElem?_eq_some_iff.1 h3).1
      have hj := (List.getElem?_eq_some_iff.1 h4).1
      have l2 := (h.2.2.2.1.2 _ (List.mem_of_getElem? h3)).2.2.2.1
      have e2 : wr ((j : Int) + 1) = ((j + 1 : Nat) : Int) := by have : wr ((j : Int) + 1) = (j : Int) + 1 := wrap_in (by omega) (by omega); rw [this]; rfl
      have e4 : slOk (0 : Int) ((j + 1 : Nat) : Int) (x.2.2.2.length : Int) = true := by simp [slOk]; omega
      have e5 : p.2.2.2.1.take (i + 1) = p.2.2.2.1.take i ++ [x] := take_succ h3
      have e6 : (p.2.2.2.1.take (i + 1)).length = i + 1 := by rw [List.length_take]; omega
      rw [h1, h2, e2]
      let cutX : Nat → den tPathPart → den tPathPart := fun k z => if k = i then (z.1, z.2.1, z.2.2.1, z.2.2.2.take (j + 1)) else z
      rw [loopG (fun k (a : List (den tPathPart)) => ((k : Int), a)) ((0 : Int), []) [] (p.2.2.2.1.take (i + 1)) (fun k z a => a ++ [cutX k z]) List.length (fun _ => 1) 68719476736 id rfl (by omega) (by rw [sum_one]; simp; omega) (fun k z a => by simp) (fun k z a hz hx hd hw hk hb => by
        rw [e6] at hd hk
        have hz' := (get_take hx).1
        have hd' : decide ((k : Int) ≤ (i : Int)) = true := by simp; omega
        have sz := h.2.2.2.1.2 _ (List.mem_of_getElem? hz')
        simp only [hd', hw, cond_true, obind_some, idx_nat, hz', peta, s_copyPt sz]
        by_cases hki : k = i
        · subst hki
          rw [h3] at hz'
          injection hz' with hz'
          subst hz'
          have e7 : ((k : Int) == (k : Int)) = true := by simp
          simp only [e7, cond_true, e4, obind_some, cut_take, apOk_le (b := 48) (n := a.length) (m := 1) (by decide) hb, cutX, if_true]
        · have e7 : ((k : Int) == (i : Int)) = false := by simp; omega
          simp only [e7, cond_false, obind_some, apOk_le (b := 48) (n := a.length) (m := 1) (by decide) hb, cond_true, cutX, if_neg hki]) (fun a => by
        have e10 : decide (((i + 1 : Nat) : Int) ≤ (i : Int)) = false := by simp <;> omega
        rw [e6]; simp only [e10, cond_false]; rfl)]
      have key : ∀ (l : List (den tPathPart)) (k : Nat) (a : List (den tPathPart)), k + l.length ≤ i → foldI (fun k z a => a ++ [cutX k z]) k l a = a ++ l := by
        intro l
        induction l with
        | nil => intro k a _; simp [foldI]
        | cons z l ih =>
          intro k a hk
          simp only [List.length_cons] at hk
          simp only [foldI]
          rw [ih (k + 1) _ (by omega)]
          have : cutX k z = z := if_neg (by omega)
          rw [this]; simp
      have fa : ∀ (l : List (den tPathPart)) (z : den tPathPart) (k : Nat) (a : List (den tPathPart)), foldI (fun k z a => a ++ [cutX k z]) k (l ++ [z]) a = foldI (fun k z a => a ++ [cutX k z]) k l a ++ [cutX (k + l.length) z] := by
        intro l
        induction l with
        | nil => intro z k a; rfl
        | cons y l ih =>
          intro z k a
          simp only [List.cons_append, foldI, List.length_cons]
          rw [ih]
          congr 3
          omega
      have e8 : (p.2.2.2.1.take i).length = i := by rw [List.length_take]; omega
      rw [e5, fa, key _ 0 [] (by omega), e8]
      have : cutX (0 + i) x = (x.1, x.2.1, x.2.2.1, x.2.2.2.take (j + 1)) := if_pos (by omega)
      rw [this]
      unfold truncAt
      rw [Int.toNat_natCast, Int.toNat_natCast, h3]
      rfl

theorem truncAt_tot (p : den tPath) (i j : Nat) : tot tPath (truncAt p i j) ≤ tot tPath p := by
  unfold truncAt
  cases h : p[i]? with
  | none => exact Nat.zero_le _
  | some x =>
    have h1 : tot tPath (p.take (i + 1)) ≤ tot tPath p := tot_take (t := tPathPart) p (i + 1)
    rw [take_succ h] at h1
    have h2 : tot (.sl tPathPart) (p.take i ++ [x]) ≤ tot (.sl tPathPart) p := h1
    show tot (.sl tPathPart) (p.take i ++ [(x.1, x.2.1, x.2.2.1, x.2.2.2.take (j + 1))]) ≤ tot (.sl tPathPart) p
    rw [tot_app, tot_one] at h2 ⊢
    have h3 : tot tPathPart (x.1, x.2.1, x.2.2.1, x.2.2.2.take (j + 1)) ≤ tot tPathPart x := by
      have := tot_take (t := tHop) x.2.2.2 (j + 1)
      show 0 + (0 + (0 + tot (.sl tHop) (x.2.2.2.take (j + 1)))) ≤ 0 + (0 + (0 + tot (.sl tHop) x.2.2.2))
      omega
    omega

theorem truncP_tot (p : den tPacket) : tot tPath (truncP p) ≤ tot tPath p.2.2.2.1 := by
  unfold truncP
  split
  · exact Nat.zero_le _
  · exact truncAt_tot _ _ _

def vi : Nat → Nat → List Int
  | 0, n => [(n : Int)]
  | k + 1, n => if n < 128 then [(n : Int)] else (((n % 128 + 128 : Nat) : Int)) :: vi k (n / 128)

theorem vi_len : ∀ (k n : Nat), (vi k n).length ≤ k + 1
  | 0, n => by simp [vi]
  | k + 1, n => by
    unfold vi
    split
    · simp
    · have := vi_len k (n / 128); simp only [List.length_cons]; omega

theorem u8_wrap {n : Nat} (h : n < 256) : IntKind.wrap .u8 (n : Int) = (n : Int) := by
  simp only [IntKind.wrap, IntKind.signed, IntKind.bits]
  simp
  omega

theorem i_vi : ∀ (k n : Nat) (out : List Int), n < 128 ^ (k + 1) → out.length + k + 1 ≤ 68719476736 → n < 9223372036854775808 → (@Option.bind (Int × (List Int)) ((List Int)) (@loopM (Int × (List Int)) (Int × (List Int)) (fun (s4 : Int × (List Int)) => cond (decide (s4.1 ≥ (128 : Int))) (cond (apOk 1 s4.2.length 1) (some (Sum.inl (wr (Int.tdiv s4.1 (128 : Int)), s4.2 ++ [IntKind.wrap .u8 (wr ((Int.tmod s4.1 (128 : Int)) + (128 : Int)))]))) none) (some (Sum.inr (s4.1, s4.2)))) ((n : Int), out)) fun (s5 : Int × (List Int)) => cond (apOk 1 s5.2.length 1) (some (s5.2 ++ [IntKind.wrap .u8 s5.1])) none) = some (out ++ vi k n)
  | 0, n, out, hn, ho, hb => by
    have hn : n < 128 := by simpa using hn
    have e1 : decide ((n : Int) ≥ 128) = false := by simp; omega
    rw [loopM_done (r := ((n : Int), out)) (by simp only [e1, cond_false]), obind_some]
    simp only [apOk_le (b := 1) (n := out.length) (m := 1) (by decide) (by omega), cond_true, u8_wrap (n := n) (by omega), vi]
  | k + 1, n, out, hn, ho, hb => by
    by_cases h : n < 128
    · have e1 : decide ((n : Int) ≥ 128) = false := by simp; omega
      rw [loopM_done (r := ((n : Int), out)) (by simp only [e1, cond_false]), obind_some]
      simp only [apOk_le (b := 1) (n := out.length) (m := 1) (by decide) (by omega), cond_true, u8_wrap (n := n) (by omega), vi, if_pos h]
    · have e1 : decide ((n : Int) ≥ 128) = true := by simp; omega
      have hd : n / 128 < 128 ^ (k + 1) := by rw [Nat.div_lt_iff_lt_mul (by decide)]; rw [Nat.pow_succ] at hn; exact hn
      have e2 : Int.tdiv (n : Int) 128 = ((n / 128 : Nat) : Int) := rfl
      have e3 : Int.tmod (n : Int) 128 = ((n % 128 : Nat) : Int) := rfl
      have e4 : wr (((n % 128 : Nat) : Int) + 128) = ((n % 128 + 128 : Nat) : Int) := by
        have : wr (((n % 128 : Nat) : Int) + 128) = ((n % 128 : Nat) : Int) + 128 := wrap_in (by omega) (by omega)
        rw [this]; rfl
      have e5 : wr ((n / 128 : Nat) : Int) = ((n / 128 : Nat) : Int) := wrap_in (by omega) (by omega)
      rw [loopM_next (s' := (((n / 128 : Nat) : Int), out ++ [((n % 128 + 128 : Nat) : Int)])) (by
        simp only [e1, cond_true, apOk_le (b := 1) (n := out.length) (m := 1) (by decide) (by omega), e2, e3, e4, e5, u8_wrap (n := n % 128 + 128) (by omega)])]
      rw [i_vi k (n / 128) _ hd (by simp; omega) (by omega)]
      simp only [vi, if_neg h, List.append_assoc, List.singleton_append]

theorem bAnd_127 {n : Nat} (h : n < 9223372036854775808) : bAnd .i64 (n : Int) 127 = ((n % 128 : Nat) : Int) := by
  have e : (BitVec.ofInt 64 (n : Int) &&& BitVec.ofInt 64 127).toNat = n % 128 := by
    rw [BitVec.toNat_and]
    have e1 : (BitVec.ofInt 64 (n : Int)).toNat = n := by simp; omega
    have e2 : (BitVec.ofInt 64 127).toNat = 2 ^ 7 - 1 := by decide
    rw [e1, e2, Nat.and_two_pow_sub_one_eq_mod]
  unfold bAnd
  show IntKind.i64.wrap (((BitVec.ofInt 64 (n : Int) &&& BitVec.ofInt 64 127).toNat : Nat) : Int) = _
  rw [e]
  exact wrap_in (by omega) (by omega)

theorem bOr_128 {n : Nat} (h : n < 128) : bOr .i64 (n : Int) 128 = ((n + 128 : Nat) : Int) := by
  have e : (BitVec.ofInt 64 (n : Int) ||| BitVec.ofInt 64 128).toNat = n + 128 := by
    rw [BitVec.toNat_or]
    have e1 : (BitVec.ofInt 64 (n : Int)).toNat = n := by simp; omega
    have e2 : (BitVec.ofInt 64 128).toNat = 128 := by decide
    rw [e1, e2, Nat.or_comm]
    have := Nat.two_pow_add_eq_or_of_lt (i := 7) (b := n) h 1
    simp only [Nat.mul_one] at this
    rw [← this]; omega
  unfold bOr
  show IntKind.i64.wrap (((BitVec.ofInt 64 (n : Int) ||| BitVec.ofInt 64 128).toNat : Nat) : Int) = _
  rw [e]
  exact wrap_in (by omega) (by omega)

theorem shr_7 (n : Nat) : shr .i64 (n : Int) 7 = ((n / 128 : Nat) : Int) := by
  unfold shr
  show Int.fdiv (n : Int) (2 ^ 7) = _
  rw [Int.fdiv_eq_ediv_of_nonneg _ (by decide)]
  rfl

theorem s_vi : ∀ (k n : Nat) (out : List Int), n < 128 ^ (k + 1) → out.length + k + 1 ≤ 68719476736 → n < 9223372036854775808 → (@Option.bind (Int × (List Int)) ((List Int)) (@loopM (Int × (List Int)) (Int × (List Int)) (fun (s3 : Int × (List Int)) => cond (decide (s3.1 > (127 : Int))) (cond (apOk 1 s3.2.length 1) (some (Sum.inl (shr .i64 s3.1 (7 : Int), s3.2 ++ [IntKind.wrap .u8 (bOr .i64 (bAnd .i64 s3.1 (127 : Int)) (128 : Int))]))) none) (some (Sum.inr (s3.1, s3.2)))) ((n : Int), out)) fun (s4 : Int × (List Int)) => cond (apOk 1 s4.2.length 1) (some (s4.2 ++ [IntKind.wrap .u8 s4.1])) none) = some (out ++ vi k n)
  | 0, n, out, hn, ho, hb => by
    have hn : n < 128 := by simpa using hn
    have e1 : decide ((n : Int) > 127) = false := by simp; omega
    rw [loopM_done (r := ((n : Int), out)) (by simp only [e1, cond_false]), obind_some]
    simp only [apOk_le (b := 1) (n := out.length) (m := 1) (by decide) (by omega), cond_true, u8_wrap (n := n) (by omega), vi]
  | k + 1, n, out, hn, ho, hb => by
    by_cases h : n < 128
    · have e1 : decide ((n : Int) > 127) = false := by simp; omega
      rw [loopM_done (r := ((n : Int), out)) (by simp only [e1, cond_false]), obind_some]
      simp only [apOk_le (b := 1) (n := out.length) (m := 1) (by decide) (by omega), cond_true, u8_wrap (n := n) (by omega), vi, if_pos h]
    · have e1 : decide ((n : Int) > 127) = true := by simp; omega
      have hd : n / 128 < 128 ^ (k + 1) := by rw [Nat.div_lt_iff_lt_mul (by decide)]; rw [Nat.pow_succ] at hn; exact hn
      rw [loopM_next (s' := (((n / 128 : Nat) : Int), out ++ [((n % 128 + 128 : Nat) : Int)])) (by
        simp only [e1, cond_true, apOk_le (b := 1) (n := out.length) (m := 1) (by decide) (by omega), shr_7, bAnd_127 hb, bOr_128 (n := n % 128) (by omega), u8_wrap (n := n % 128 + 128) (by omega)])]
      rw [s_vi k (n / 128) _ hd (by simp; omega) (by omega)]
      simp only [vi, if_neg h, List.append_assoc, List.singleton_append]

def encI (b : List Int) (n : Int) : List Int := if inR n 0 1000000000000 then b ++ vi 5 n.toNat else b

theorem encI_len (b : List Int) (n : Int) : (encI b n).length ≤ b.length + 6 := by
  unfold encI
  split
  · have := vi_len 5 n.toNat; rw [List.length_append]; omega
  · omega

theorem i_encI {b : List Int} {n : Int} (h : b.length + 6 ≤ 68719476736) : i_AppendVarint b n = some (encI b n) := by
  unfold i_AppendVarint encI
  rw [i_copyB (by omega), i_in]
  cases c : inR n 0 1000000000000 with
  | false => rfl
  | true =>
    rw [inR_iff] at c
    obtain ⟨m, rfl⟩ := Int.eq_ofNat_of_zero_le c.1
    have := i_vi 5 m b (by have : (128 : Nat) ^ (5 + 1) = 4398046511104 := by decide
                           omega) (by omega) (by omega)
    exact this

theorem s_encI {b : List Int} {n : Int} (h : b.length + 6 ≤ 68719476736) : s_AppendVarint b n = some (encI b n) := by
  unfold s_AppendVarint encI
  rw [apOk_le (b := 1) (n := ([] : List Int).length) (by decide) (by simp; omega), s_in]
  cases c : inR n 0 1000000000000 with
  | false => rfl
  | true =>
    rw [inR_iff] at c
    obtain ⟨m, rfl⟩ := Int.eq_ofNat_of_zero_le c.1
    have := s_vi 5 m b (by have : (128 : Nat) ^ (5 + 1) = 4398046511104 := by decide
                           omega) (by omega) (by omega)
    exact this

def encL (b l : List Int) : List Int := l.foldl encI b

theorem encL_len (b l : List Int) : (encL b l).length ≤ b.length + 6 * l.length := by
  unfold encL
  induction l generalizing b with
  | nil => simp
  | cons x l ih =>
    have h1 := ih (encI b x)
    have h2 := encI_len b x
    simp only [List.foldl_cons, List.length_cons]
    omega

theorem sum_six {α : Type} (l : List α) : (l.map fun _ => 6).sum = 6 * l.length := by
  induction l with
  | nil => rfl
  | cons x l ih => rw [List.map_cons, List.sum_cons, ih, List.length_cons]; omega

theorem i_encL {b l : List Int} (h : b.length + 6 * l.length ≤ 68719476736) : i_appendInts b l = some (encL b l) := by
  unfold i_appendInts encL
  rw [loopG (fun k (a : List Int) => (a, (k : Int))) (b, (0 : Int)) b l (fun _ x a => encI a x) List.length (fun _ => 6) 68719476736 id rfl (by omega) (by rw [sum_six]; exact h) (fun _ x a => encI_len a x) (fun k x a hi hx hd hw hk hb => by
    simp only [hd, hi, hw, cond_true, obind_some, i_encI (b := a) (n := x) hb]) (fun a => by simp), foldI_foldl encI]
  rfl

theorem i_encInts {l : List Int} (h : 6 * l.length ≤ 68719476736) : i_EncodeInts l = some (encL [] l) := by
  unfold i_EncodeInts
  rw [i_encL (by simpa using h)]; rfl

theorem s_encInts {l : List Int} (h : 6 * l.length ≤ 68719476736) : s_EncodeInts l = some (encL [] l) := by
  unfold s_EncodeInts encL
  rw [loopG (fun k (a : List Int) => ((k : Int), a)) ((0 : Int), []) [] l (fun _ x a => encI a x) List.length (fun _ => 6) 68719476736 id rfl (by omega) (by rw [sum_six]; simpa using h) (fun _ x a => encI_len a x) (fun k x a hi hx hd hw hk hb => by
    simp only [hd, hi, hw, cond_true, obind_some, s_encI (b := a) (n := x) hb]) (fun a => by simp), foldI_foldl encI]
  rfl

def encV (x : den tRevocation) : List Int := if validV x then encL [] [x.1, x.2.1, x.2.2] else []

theorem encV_len (x : den tRevocation) : (encV x).length ≤ 18 := by
  unfold encV
  split
  · exact encL_len [] [x.1, x.2.1, x.2.2]
  · simp

theorem i_encV (x : den tRevocation) : i_EncodeRevocation x = some (encV x) := by
  unfold i_EncodeRevocation encV
  rw [i_encInts (l := [x.1, x.2.1, x.2.2]) (by simp)]
  simp only [peta, i_validV, obind_some]
  cases validV x <;> rfl

theorem s_encV (x : den tRevocation) : s_EncodeRevocation x = some (encV x) := by
  unfold s_EncodeRevocation encV
  rw [s_encInts (l := [x.1, x.2.1, x.2.2]) (by simp)]
  simp only [peta, s_validV, obind_some]
  cases validV x <;> rfl

/-- The note that an interface is dead. -/
def noteP (r now d : Int) (p : den tPacket) : den tPacket := newPk 3 (revP (truncP p)) p.2.2.2.2.2.2.2.1 p.2.2.2.2.2.2.2.2.1 (encV (r, d, if 1000000 < wr (now + 10) then 1000000 else wr (now + 10)))

theorem i_noteP {t : den tTopology} {r now d : Int} {p : den tPacket} (h : tot tPacket p ≤ 34359738368) : i_MakeRevocation t r now d p = some (pkR (noteP r now d p)) := by
  have h1 : tot tPath p.2.2.2.1 ≤ 34359738368 := tot_l (tot_r (tot_r (tot_r h)))
  have h2 := truncP_tot p
  have sm : SmB 68719476736 tPacket p := (sm_of_tot h).mono (by decide)
  have h3 := encV_len (r, d, if 1000000 < wr (now + 10) then 1000000 else wr (now + 10))
  unfold i_MakeRevocation noteP
  simp only [peta, i_min, obind_some, i_truncP sm]
  rw [i_revP ((sm_of_tot (Nat.le_trans h2 h1)).mono (by decide)), obind_some, i_encV, obind_some, i_newPk (by rw [revP_tot]; omega) (by omega)]
  rfl

theorem s_noteP {t : den tTopology} {r now d : Int} {p : den tPacket} (h : tot tPacket p ≤ 34359738368) : s_MakeRevocation t r now d p = some (pkR (noteP r now d p)) := by
  have h1 : tot tPath p.2.2.2.1 ≤ 34359738368 := tot_l (tot_r (tot_r (tot_r h)))
  have h2 := truncP_tot p
  have sm : SmB 68719476736 tPacket p := (sm_of_tot h).mono (by decide)
  have h3 := encV_len (r, d, if 1000000 < wr (now + 10) then 1000000 else wr (now + 10))
  unfold s_MakeRevocation noteP
  simp only [peta, s_min, obind_some, s_truncP sm]
  rw [s_revP ((sm_of_tot (Nat.le_trans h2 h1)).mono (by decide)), obind_some, s_encV, obind_some, s_newPk (by rw [revP_tot]; omega) (by omega)]
  rfl

theorem newPk_tot {kind res seq : Int} {p : den tPath} {pay : List Int} : tot tPacket (newPk kind p res seq pay) = tot tPath p + tot (.sl tb) pay := by
  show 0 + (0 + (0 + (tot tPath p + (0 + (0 + (0 + (0 + (0 + tot (.sl tb) pay)))))))) = _
  omega

theorem pk_path {p : den tPacket} {N : Nat} (h : tot tPacket p ≤ N) : tot (.sl tPathPart) p.2.2.2.1 ≤ N ∧ tot (.sl tb) p.2.2.2.2.2.2.2.2.2 ≤ N :=
  ⟨tot_l (tot_r (tot_r (tot_r h))), tot_r (tot_r (tot_r (tot_r (tot_r (tot_r (tot_r (tot_r (tot_r h))))))))⟩

theorem noteP_tot (r now d : Int) (p : den tPacket) : tot tPacket (noteP r now d p) ≤ tot tPacket p + 18 := by
  unfold noteP
  rw [newPk_tot, revP_tot]
  have h1 := truncP_tot p
  have h2 := (pk_path (Nat.le_refl (tot tPacket p))).1
  have h2 : tot tPath p.2.2.2.1 ≤ tot tPacket p := h2
  have h3 := encV_len (r, d, if 1000000 < wr (now + 10) then 1000000 else wr (now + 10))
  have e : tot (.sl tb) (encV (r, d, if 1000000 < wr (now + 10) then 1000000 else wr (now + 10))) = (encV (r, d, if 1000000 < wr (now + 10) then 1000000 else wr (now + 10))).length := tot_flatL rfl
  rw [e]
  omega

end Go.Proofs.Ytmodgmbmbainmaa
