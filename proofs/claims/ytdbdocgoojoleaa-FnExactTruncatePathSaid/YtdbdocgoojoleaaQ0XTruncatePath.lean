/-
  Facts and plain laws: what the functions compute, in plain words. Conditions: as each says.
-/
import Derived.Test.YtdbdocgoojoleaaT0XTruncatePath
set_option linter.unusedVariables false
set_option linter.unusedSimpArgs false
set_option maxRecDepth 100000
namespace Go.Proofs.Ytdbdocgoojoleaa
open Go.Ab Go.V
theorem sz_HopS {l : den (.sl tHop)} {left : Int} (w : Wf (.sl tHop) l) (h0 : 0 ≤ left) (h1 : left ≤ 1048576) : SzT (l_szHopS l left) left (tot (.sl tHop) l) := szF_ok (t := tHop) rfl w.1 h0 h1

theorem sz_PathPart {x : den tPathPart} {left : Int} (w : Wf tPathPart x) (h0 : 0 ≤ left) (h1 : left ≤ 1048576) : SzT (l_szPathPart x left) left (tot tPathPart x) := SzT.eq (sz_field (sz_HopS w.2.2.2 h0 h1) h1 fun r0 a0 b0 => sz_done a0) (by simp [tot, tot_flat])

theorem sz_PathPartS {l : den (.sl tPathPart)} {left : Int} (w : Wf (.sl tPathPart) l) (h0 : 0 ≤ left) (h1 : left ≤ 1048576) : SzT (l_szPathPartS l left) left (tot (.sl tPathPart) l) := szL_ok (t := tPathPart) (szE := l_szPathPart) w.1 h0 h1 fun x hx k k0 k1 => sz_PathPart (w.2 x hx) k0 k1

theorem sz_Path {x : den tPath} {left : Int} (w : Wf tPath x) (h0 : 0 ≤ left) (h1 : left ≤ 1048576) : SzT (l_szPath x left) left (tot tPath x) := SzT.eq (sz_field (sz_PathPartS w h0 h1) h1 fun r0 a0 b0 => sz_done a0) (by simp [tot, tot_flat])

theorem sz_ByteS {l : den (.sl tb)} {left : Int} (w : Wf (.sl tb) l) (h0 : 0 ≤ left) (h1 : left ≤ 1048576) : SzT (l_szByteS l left) left (tot (.sl tb) l) := szF_ok (t := tb) rfl w.1 h0 h1

theorem sz_Packet {x : den tPacket} {left : Int} (w : Wf tPacket x) (h0 : 0 ≤ left) (h1 : left ≤ 1048576) : SzT (l_szPacket x left) left (tot tPacket x) := SzT.eq (sz_field (sz_Path w.2.2.2.1 h0 h1) h1 fun r0 a0 b0 => sz_field (sz_ByteS w.2.2.2.2.2.2.2.2.2 a0 b0) b0 fun r1 a1 b1 => sz_done a1) (by simp [tot, tot_flat] <;> omega)

theorem to_Hop {x : den tHop} (h : Sm tHop x) : l_toHop x = some x := by
  unfold l_toHop
  rfl

theorem to_HopS {l : den (.sl tHop)} (h : Sm (.sl tHop) l) : l_toHopS l = some l := by
  have : l_toHopS l = some (l.map id) := toL_eq (toE := l_toHop) (g := id) h.1 (by decide) fun x hx => to_Hop (h.2 x hx)
  simpa using this

theorem to_PathPart {x : den tPathPart} (h : Sm tPathPart x) : l_toPathPart x = some x := by
  unfold l_toPathPart
  simp [to_HopS h.2.2.2]

theorem to_PathPartS {l : den (.sl tPathPart)} (h : Sm (.sl tPathPart) l) : l_toPathPartS l = some l := by
  have : l_toPathPartS l = some (l.map id) := toL_eq (toE := l_toPathPart) (g := id) h.1 (by decide) fun x hx => to_PathPart (h.2 x hx)
  simpa using this

theorem to_Path {x : den tPath} (h : Sm tPath x) : l_toPath x = some x := by
  unfold l_toPath
  simp [to_PathPartS h]

theorem to_ByteS {l : den (.sl tb)} (h : Sm (.sl tb) l) : l_toByteS l = some l := by
  have : l_toByteS l = some (l.map id) := toL_eq (toE := some) (g := id) h.1 (by decide) fun x hx => rfl
  simpa using this

theorem to_Packet {x : den tPacket} (h : Sm tPacket x) : l_toPacket x = some (x.1, x.2.1, x.2.2.1, x.2.2.2.2.1, x.2.2.2.2.2.1, x.2.2.2.2.2.2.1, x.2.2.2.2.2.2.2.1, x.2.2.2.2.2.2.2.2.1, x.2.2.2.1, x.2.2.2.2.2.2.2.2.2) := by
  unfold l_toPacket
  simp only [to_Path h.2.2.2.1, to_ByteS h.2.2.2.2.2.2.2.2.2, obind_some, peta]

theorem eq_Hop {x : den tHop} (h : SmB 4611686018427387904 tHop x) : l_eqHop x x = some true := by
  unfold l_eqHop
  simp

theorem eq_HopS {l : den (.sl tHop)} (h : SmB 4611686018427387904 (.sl tHop) l) : l_eqHopS l l = some true := eqL_refl (eqE := l_eqHop) h.1 fun x hx => eq_Hop (h.2 x hx)

theorem eq_PathPart {x : den tPathPart} (h : SmB 4611686018427387904 tPathPart x) : l_eqPathPart x x = some true := by
  unfold l_eqPathPart
  simp [eq_HopS h.2.2.2]

theorem eq_PathPartS {l : den (.sl tPathPart)} (h : SmB 4611686018427387904 (.sl tPathPart) l) : l_eqPathPartS l l = some true := eqL_refl (eqE := l_eqPathPart) h.1 fun x hx => eq_PathPart (h.2 x hx)

theorem eq_Path {x : den tPath} (h : SmB 4611686018427387904 tPath x) : l_eqPath x x = some true := by
  unfold l_eqPath
  simp [eq_PathPartS h]

theorem eq_ByteS {l : den (.sl tb)} (h : SmB 4611686018427387904 (.sl tb) l) : l_eqByteS l l = some true := eqL_refl (eqE := (fun x y => some (x == y))) h.1 fun x hx => by simp

theorem eq_Packet {x : den tPacket} (h : SmB 4611686018427387904 tPacket x) : l_eqPacket x x = some true := by
  unfold l_eqPacket
  simp [eq_Path h.2.2.2.1, eq_ByteS h.2.2.2.2.2.2.2.2.2]

theorem mark_HopS {l : den (.sl tHop)} {k : Int} (h : SmB 4611686018427387904 (.sl tHop) l) (hk : 0 ≤ k) (hb : k + ((lv (.sl tHop) l : Nat) : Int) ≤ 4611686018427387904) : l_markHopS l k = some (k + ((lv (.sl tHop) l : Nat) : Int), mkT (.sl tHop) l k) := by
  have hc := cntAll_sum (lv tHop) l
  have hc : k + ((cntAll (lv tHop) l : Nat) : Int) = k + ((lv (.sl tHop) l : Nat) : Int) := by rw [hc]; rfl
  unfold l_markHopS
  rw [mark0 (cE := lv tHop) (mE := mkT tHop) (SmB 4611686018427387904 tHop) (fun k i L x hx hi hN hk hb hp => by
      have hd : decide ((i : Int) < (L.length : Int)) = true := by simpa using hi
      have hd0 : decide ((0 : Int) ≤ (i : Int)) = true := by simp
      have hw : IntKind.i64.wrap ((i : Int) + 1) = ((i + 1 : Nat) : Int) := by rw [wrap_in (by omega) (by omega)]; omega
      have hl : k + ((lv tHop x : Nat) : Int) = k + 1 + 1 + 1 + 1 + 1 := by simp only [lv] <;> omega
      rw [hl] at hb
      rw [hl]
      have hE : mkT tHop x k = (k, k + 1, k + 1 + 1, k + 1 + 1 + 1, k + 1 + 1 + 1 + 1) := by first | rfl | (simp [mkT, lv]; try omega)
      have f0 : IntKind.i64.wrap (k + 1) = k + 1 := wrap_in (by omega) (by omega)
      have f1 : IntKind.i64.wrap (k + 1 + 1) = k + 1 + 1 := wrap_in (by omega) (by omega)
      have f2 : IntKind.i64.wrap (k + 1 + 1 + 1) = k + 1 + 1 + 1 := wrap_in (by omega) (by omega)
      have f3 : IntKind.i64.wrap (k + 1 + 1 + 1 + 1) = k + 1 + 1 + 1 + 1 := wrap_in (by omega) (by omega)
      have f4 : IntKind.i64.wrap (k + 1 + 1 + 1 + 1 + 1) = k + 1 + 1 + 1 + 1 + 1 := wrap_in (by omega) (by omega)
      rw [hE]
      simp only [hd, hd0, hw, cond_true, Int.toNat_natCast, hx, obind_some, List.length_set, List.getElem?_set_self hi, List.set_set, f0, f1, f2, f3, f4]) (fun k L => by simp) h.1 h.2 hk (by rw [hc]; exact hb), hc]
  rfl

theorem mark_PathPartS {l : den (.sl tPathPart)} {k : Int} (h : SmB 4611686018427387904 (.sl tPathPart) l) (hk : 0 ≤ k) (hb : k + ((lv (.sl tPathPart) l : Nat) : Int) ≤ 4611686018427387904) : l_markPathPartS l k = some (k + ((lv (.sl tPathPart) l : Nat) : Int), mkT (.sl tPathPart) l k) := by
  have hc := cntAll_sum (lv tPathPart) l
  have hc : k + ((cntAll (lv tPathPart) l : Nat) : Int) = k + ((lv (.sl tPathPart) l : Nat) : Int) := by rw [hc]; rfl
  unfold l_markPathPartS
  rw [mark0 (cE := lv tPathPart) (mE := mkT tPathPart) (SmB 4611686018427387904 tPathPart) (fun k i L x hx hi hN hk hb hp => by
      have hd : decide ((i : Int) < (L.length : Int)) = true := by simpa using hi
      have hd0 : decide ((0 : Int) ≤ (i : Int)) = true := by simp
      have hw : IntKind.i64.wrap ((i : Int) + 1) = ((i + 1 : Nat) : Int) := by rw [wrap_in (by omega) (by omega)]; omega
      have hl : k + ((lv tPathPart x : Nat) : Int) = k + 1 + 1 + 1 + ((lv (.sl tHop) x.2.2.2 : Nat) : Int) := by simp only [lv] <;> omega
      rw [hl] at hb
      rw [hl]
      have hE : mkT tPathPart x k = (k, k + 1, k + 1 + 1, mkT (.sl tHop) x.2.2.2 (k + 1 + 1 + 1)) := by first | rfl | (simp [mkT, lv]; try omega)
      have f0 : IntKind.i64.wrap (k + 1) = k + 1 := wrap_in (by omega) (by omega)
      have f1 : IntKind.i64.wrap (k + 1 + 1) = k + 1 + 1 := wrap_in (by omega) (by omega)
      have f2 : IntKind.i64.wrap (k + 1 + 1 + 1) = k + 1 + 1 + 1 := wrap_in (by omega) (by omega)
      have f3 := mark_HopS (l := x.2.2.2) (k := k + 1 + 1 + 1) hp.2.2.2 (by omega) (by omega)
      rw [hE]
      simp only [hd, hd0, hw, cond_true, Int.toNat_natCast, hx, obind_some, List.length_set, List.getElem?_set_self hi, List.set_set, f0, f1, f2, f3]) (fun k L => by simp) h.1 h.2 hk (by rw [hc]; exact hb), hc]
  rfl

theorem mark_Path {x : den tPath} {k : Int} (h : SmB 4611686018427387904 tPath x) (hk : 0 ≤ k) (hb : k + ((lv (.sl tPathPart) x : Nat) : Int) ≤ 4611686018427387904) : l_markPath x k = some (k + ((lv (.sl tPathPart) x : Nat) : Int), mkT (.sl tPathPart) x (k)) := by
  have q0 := mark_PathPartS (l := x) (k := k) h (by omega) (by omega)
  unfold l_markPath
  simp only [q0, obind_some, peta]

theorem mark_ByteS {l : den (.sl tb)} {k : Int} (h : SmB 4611686018427387904 (.sl tb) l) (hk : 0 ≤ k) (hb : k + ((lv (.sl tb) l : Nat) : Int) ≤ 4611686018427387904) : l_markByteS l k = some (k + ((lv (.sl tb) l : Nat) : Int), mkT (.sl tb) l k) := by
  have hc := cntAll_sum (lv tb) l
  have hc : k + ((cntAll (lv tb) l : Nat) : Int) = k + ((lv (.sl tb) l : Nat) : Int) := by rw [hc]; rfl
  unfold l_markByteS
  rw [mark0 (cE := lv tb) (mE := mkT tb) (SmB 4611686018427387904 tb) (fun k i L x hx hi hN hk hb hp => by
      have hd : decide ((i : Int) < (L.length : Int)) = true := by simpa using hi
      have hd0 : decide ((0 : Int) ≤ (i : Int)) = true := by simp
      have hw : IntKind.i64.wrap ((i : Int) + 1) = ((i + 1 : Nat) : Int) := by rw [wrap_in (by omega) (by omega)]; omega
      have hl : k + ((lv tb x : Nat) : Int) = k + 1 := by simp only [lv] <;> omega
      rw [hl] at hb
      rw [hl]
      have hE : mkT tb x k = IntKind.u8.wrap (k) := by first | rfl | (simp [mkT, lv]; try omega)
      have f0 : IntKind.i64.wrap (k + 1) = k + 1 := wrap_in (by omega) (by omega)
      rw [hE]
      simp only [hd, hd0, hw, cond_true, Int.toNat_natCast, hx, obind_some, List.length_set, List.getElem?_set_self hi, List.set_set, f0]) (fun k L => by simp) h.1 h.2 hk (by rw [hc]; exact hb), hc]
  rfl

theorem mark_Packet {x : den tPacket} {k : Int} (h : SmB 4611686018427387904 tPacket x) (hk : 0 ≤ k) (hb : k + ((lv (.sl tPathPart) x.2.2.2.1 : Nat) : Int) + ((lv (.sl tb) x.2.2.2.2.2.2.2.2.2 : Nat) : Int) ≤ 4611686018427387904) : l_markPacket x k = some (k + ((lv (.sl tPathPart) x.2.2.2.1 : Nat) : Int) + ((lv (.sl tb) x.2.2.2.2.2.2.2.2.2 : Nat) : Int), mkT (.sl tPathPart) x.2.2.2.1 (k), mkT (.sl tb) x.2.2.2.2.2.2.2.2.2 (k + ((lv (.sl tPathPart) x.2.2.2.1 : Nat) : Int))) := by
  have q0 := mark_Path (x := x.2.2.2.1) (k := k) h.2.2.2.1 (by omega) (by omega)
  have q1 := mark_ByteS (l := x.2.2.2.2.2.2.2.2.2) (k := k + ((lv (.sl tPathPart) x.2.2.2.1 : Nat) : Int)) h.2.2.2.2.2.2.2.2.2 (by omega) (by omega)
  unfold l_markPacket
  simp only [q0, q1, obind_some, peta]

theorem held_HopS {l : den (.sl tHop)} {k : Int} (h : SmB 4611686018427387904 (.sl tHop) l) (hk : 0 ≤ k) (hb : k + ((lv (.sl tHop) l : Nat) : Int) ≤ 4611686018427387904) : l_heldHopS (mkT (.sl tHop) l k) k = some (k + ((lv (.sl tHop) l : Nat) : Int)) := by
  have hc := cntAll_sum (lv tHop) l
  have hc : k + ((cntAll (lv tHop) l : Nat) : Int) = k + ((lv (.sl tHop) l : Nat) : Int) := by rw [hc]; rfl
  unfold l_heldHopS
  have := held0 (cE := lv tHop) (mE := mkT tHop) (SmB 4611686018427387904 tHop) (fun (a_a : List (den tHop)) => fun (s7 : Int × Int) => cond (decide (s7.2 < (a_a.length : Int))) (Option.bind (idx a_a s7.2) fun x8 => cond (x8.1 != s7.1) (some (Sum.inr (Sum.inr (-1 : Int)))) (Option.bind (idx a_a s7.2) fun x9 => cond (x9.2.1 != (wr (s7.1 + (1 : Int)))) (some (Sum.inr (Sum.inr (-1 : Int)))) (Option.bind (idx a_a s7.2) fun x10 => cond (x10.2.2.1 != (wr ((wr (s7.1 + (1 : Int))) + (1 : Int)))) (some (Sum.inr (Sum.inr (-1 : Int)))) (Option.bind (idx a_a s7.2) fun x11 => cond (x11.2.2.2.1 != (wr ((wr ((wr (s7.1 + (1 : Int))) + (1 : Int))) + (1 : Int)))) (some (Sum.inr (Sum.inr (-1 : Int)))) (Option.bind (idx a_a s7.2) fun x12 => cond (x12.2.2.2.2 != (wr ((wr ((wr ((wr (s7.1 + (1 : Int))) + (1 : Int))) + (1 : Int))) + (1 : Int)))) (some (Sum.inr (Sum.inr (-1 : Int)))) (some (Sum.inl (wr ((wr ((wr ((wr ((wr (s7.1 + (1 : Int))) + (1 : Int))) + (1 : Int))) + (1 : Int))) + (1 : Int)), wr (s7.2 + (1 : Int)))))))))) (some (Sum.inr (Sum.inl s7.1)))) (l := l) (k := k) (fun k i L x hx hi hN hk hb hp => by
      have hd : decide ((i : Int) < (L.length : Int)) = true := by simpa using hi
      have hd0 : decide ((0 : Int) ≤ (i : Int)) = true := by simp
      have hw : IntKind.i64.wrap ((i : Int) + 1) = ((i + 1 : Nat) : Int) := by rw [wrap_in (by omega) (by omega)]; omega
      have hl : k + ((lv tHop x : Nat) : Int) = k + 1 + 1 + 1 + 1 + 1 := by simp only [lv] <;> omega
      rw [hl] at hb
      rw [hl]
      have hE : mkT tHop x k = (k, k + 1, k + 1 + 1, k + 1 + 1 + 1, k + 1 + 1 + 1 + 1) := by first | rfl | (simp [mkT, lv]; try omega)
      have f0 : IntKind.i64.wrap (k + 1) = k + 1 := wrap_in (by omega) (by omega)
      have f1 : IntKind.i64.wrap (k + 1 + 1) = k + 1 + 1 := wrap_in (by omega) (by omega)
      have f2 : IntKind.i64.wrap (k + 1 + 1 + 1) = k + 1 + 1 + 1 := wrap_in (by omega) (by omega)
      have f3 : IntKind.i64.wrap (k + 1 + 1 + 1 + 1) = k + 1 + 1 + 1 + 1 := wrap_in (by omega) (by omega)
      have f4 : IntKind.i64.wrap (k + 1 + 1 + 1 + 1 + 1) = k + 1 + 1 + 1 + 1 + 1 := wrap_in (by omega) (by omega)
      rw [hE] at hx
      have hi2 : idx L (i : Int) = some (k, k + 1, k + 1 + 1, k + 1 + 1 + 1, k + 1 + 1 + 1 + 1) := by rw [idx_nat]; exact hx
      simp only [hd, hw, hi2, cond_true, obind_some, bne_self_eq_false, beq_self_eq_true, Bool.not_true, cond_false, f0, f1, f2, f3, f4]) (fun k L => by simp) h.1 h.2 hk (by rw [hc]; exact hb)
  rw [hc] at this
  show Option.bind (loopM _ (k, (0 : Int))) _ = _
  rw [show (mkT (.sl tHop) l k) = markAll (lv tHop) (mkT tHop) l k from rfl, this]
  rfl

theorem held_PathPartS {l : den (.sl tPathPart)} {k : Int} (h : SmB 4611686018427387904 (.sl tPathPart) l) (hk : 0 ≤ k) (hb : k + ((lv (.sl tPathPart) l : Nat) : Int) ≤ 4611686018427387904) : l_heldPathPartS (mkT (.sl tPathPart) l k) k = some (k + ((lv (.sl tPathPart) l : Nat) : Int)) := by
  have hc := cntAll_sum (lv tPathPart) l
  have hc : k + ((cntAll (lv tPathPart) l : Nat) : Int) = k + ((lv (.sl tPathPart) l : Nat) : Int) := by rw [hc]; rfl
  unfold l_heldPathPartS
  have := held0 (cE := lv tPathPart) (mE := mkT tPathPart) (SmB 4611686018427387904 tPathPart) (fun (a_a : List (den tPathPart)) => fun (s7 : Int × Int) => cond (decide (s7.2 < (a_a.length : Int))) (Option.bind (idx a_a s7.2) fun x8 => cond (x8.1 != s7.1) (some (Sum.inr (Sum.inr (-1 : Int)))) (Option.bind (idx a_a s7.2) fun x9 => cond (x9.2.1 != (wr (s7.1 + (1 : Int)))) (some (Sum.inr (Sum.inr (-1 : Int)))) (Option.bind (idx a_a s7.2) fun x10 => cond (x10.2.2.1 != (wr ((wr (s7.1 + (1 : Int))) + (1 : Int)))) (some (Sum.inr (Sum.inr (-1 : Int)))) (Option.bind (idx a_a s7.2) fun x11 => Option.bind (l_heldHopS x11.2.2.2 (wr ((wr ((wr (s7.1 + (1 : Int))) + (1 : Int))) + (1 : Int)))) fun y12 => cond (decide (y12 < (0 : Int))) (some (Sum.inr (Sum.inr (-1 : Int)))) (some (Sum.inl (y12, wr (s7.2 + (1 : Int))))))))) (some (Sum.inr (Sum.inl s7.1)))) (l := l) (k := k) (fun k i L x hx hi hN hk hb hp => by
      have hd : decide ((i : Int) < (L.length : Int)) = true := by simpa using hi
      have hd0 : decide ((0 : Int) ≤ (i : Int)) = true := by simp
      have hw : IntKind.i64.wrap ((i : Int) + 1) = ((i + 1 : Nat) : Int) := by rw [wrap_in (by omega) (by omega)]; omega
      have hl : k + ((lv tPathPart x : Nat) : Int) = k + 1 + 1 + 1 + ((lv (.sl tHop) x.2.2.2 : Nat) : Int) := by simp only [lv] <;> omega
      rw [hl] at hb
      rw [hl]
      have hE : mkT tPathPart x k = (k, k + 1, k + 1 + 1, mkT (.sl tHop) x.2.2.2 (k + 1 + 1 + 1)) := by first | rfl | (simp [mkT, lv]; try omega)
      have f0 : IntKind.i64.wrap (k + 1) = k + 1 := wrap_in (by omega) (by omega)
      have f1 : IntKind.i64.wrap (k + 1 + 1) = k + 1 + 1 := wrap_in (by omega) (by omega)
      have f2 : IntKind.i64.wrap (k + 1 + 1 + 1) = k + 1 + 1 + 1 := wrap_in (by omega) (by omega)
      have f3 := held_HopS (l := x.2.2.2) (k := k + 1 + 1 + 1) hp.2.2.2 (by omega) (by omega)
      have g3 : decide (k + 1 + 1 + 1 + ((lv (.sl tHop) x.2.2.2 : Nat) : Int) < 0) = false := by simp <;> omega
      rw [hE] at hx
      have hi2 : idx L (i : Int) = some (k, k + 1, k + 1 + 1, mkT (.sl tHop) x.2.2.2 (k + 1 + 1 + 1)) := by rw [idx_nat]; exact hx
      simp only [hd, hw, hi2, cond_true, obind_some, bne_self_eq_false, beq_self_eq_true, Bool.not_true, cond_false, f0, f1, f2, f3, g3]) (fun k L => by simp) h.1 h.2 hk (by rw [hc]; exact hb)
  rw [hc] at this
  show Option.bind (loopM _ (k, (0 : Int))) _ = _
  rw [show (mkT (.sl tPathPart) l k) = markAll (lv tPathPart) (mkT tPathPart) l k from rfl, this]
  rfl

theorem held_Path {x : den tPath} {k : Int} (h : SmB 4611686018427387904 tPath x) (hk : 0 ≤ k) (hb : k + ((lv (.sl tPathPart) x : Nat) : Int) ≤ 4611686018427387904) : l_heldPath (mkT (.sl tPathPart) x (k)) k = some (k + ((lv (.sl tPathPart) x : Nat) : Int)) := by
  have q0 := held_PathPartS (l := x) (k := k) h (by omega) (by omega)
  have d0 : decide (k + ((lv (.sl tPathPart) x : Nat) : Int) < 0) = false := by simp <;> omega
  unfold l_heldPath
  simp only [q0, d0, obind_some, peta, cond_false]

def inR (n a b : Int) : Bool := decide (a ≤ n) && decide (n ≤ b)

theorem i_in (n a b : Int) : i_InRange n a b = some (inR n a b) := by
  unfold i_InRange inR
  by_cases h : a ≤ n <;> simp [h]

theorem s_in (n a b : Int) : s_l1In n a b = some (inR n a b) := by
  unfold s_l1In inR
  by_cases h : a ≤ n <;> simp [h]

theorem inR_iff {n a b : Int} : inR n a b = true ↔ a ≤ n ∧ n ≤ b := by simp [inR]

theorem i_copyH {l : List (den tHop)} (h : l.length ≤ 68719476736) : i_copyHops l = some l := by
  unfold i_copyHops
  rw [apOk_le (by decide) (by simpa using h)]; simp

theorem s_copyPt {p : den tPathPart} (h : SmB 68719476736 tPathPart p) : s_l21Copy p = some p := by
  unfold s_l21Copy
  rw [apOk_le (by decide) (by simpa using h.2.2.2.1)]; simp

theorem i_copyP {p : den tPath} (h : SmB 68719476736 tPath p) : i_copyPath p = some p := by
  unfold i_copyPath
  rw [(loopF (fun k (a : List (den tPathPart)) => ((k : Int), a)) ((0 : Int), []) [] p (fun _ x a => a ++ [x]) List.length (fun _ => 1) 68719476736 id rfl (Nat.le_trans h.1 (by decide)) (by rw [sum_one]; simpa using h.1) (fun k x a hi hx hd hw hk hb => by
    have e := h.2 x (List.mem_of_getElem? hx)
    simp only [hd, hi, hw, cond_true, obind_some, i_copyH e.2.2.2.1, peta, apOk_le (b := 48) (by decide) hb]
    simp) (fun a => by simp)).1, foldI_map (fun x => x)]
  simp

theorem wr_len {n : Nat} (h : n ≤ 68719476736) : wr ((n : Int) - 1) = (n : Int) - 1 := wrap_in (by omega) (by omega)

def hasHop (p : den tPacket) : Bool := inR p.2.2.2.2.1 0 ((p.2.2.2.1.length : Int) - 1) && inR p.2.2.2.2.2.1 0 (((((p.2.2.2.1[p.2.2.2.2.1.toNat]?).getD (0, 0, 0, [])).2.2.2.length : Nat) : Int) - 1)

def curAS (p : den tPacket) : Int := if hasHop p then ((((p.2.2.2.1[p.2.2.2.2.1.toNat]?).getD (0, 0, 0, [])).2.2.2[p.2.2.2.2.2.1.toNat]?).getD (0, 0, 0, 0, 0)).1 else -1

theorem hasHop_iff {p : den tPacket} (h : hasHop p = true) : ∃ (i j : Nat) (x : den tPathPart) (y : den tHop), p.2.2.2.2.1 = (i : Int) ∧ p.2.2.2.2.2.1 = (j : Int) ∧ p.2.2.2.1[i]? = some x ∧ x.2.2.2[j]? = some y ∧ curAS p = y.1 := by
  have h' := h
  unfold hasHop at h'
  simp only [Bool.and_eq_true, inR_iff] at h'
  obtain ⟨⟨h1, h2⟩, h3, h4⟩ := h'
  obtain ⟨x, hx⟩ := get_some h1 h2
  rw [hx, Option.getD_some] at h4
  obtain ⟨y, hy⟩ := get_some h3 h4
  refine ⟨p.2.2.2.2.1.toNat, p.2.2.2.2.2.1.toNat, x, y, (Int.toNat_of_nonneg h1).symm, (Int.toNat_of_nonneg h3).symm, hx, hy, ?_⟩
  unfold curAS
  rw [h, if_pos rfl, hx, Option.getD_some, hy, Option.getD_some]

theorem curAS_no {p : den tPacket} (c : hasHop p = false) : curAS p = -1 := by unfold curAS; rw [c]; rfl

theorem i_hop {p : den tPacket} (h : SmB 68719476736 tPacket p) : i_hasHop p = some (hasHop p) := by
  unfold i_hasHop hasHop
  have l1 := h.2.2.2.1.1
  rw [i_in, wr_len l1, obind_some]
  cases c1 : inR p.2.2.2.2.1 0 ((p.2.2.2.1.length : Int) - 1) with
  | false => rfl
  | true =>
    rw [inR_iff] at c1
    obtain ⟨x, hx⟩ := get_some c1.1 c1.2
    rw [idx_of c1.1 hx, hx]
    have l2 := (h.2.2.2.1.2 _ (List.mem_of_getElem? hx)).2.2.2.1
    simp only [cond_true, obind_some, i_in, wr_len l2, Option.getD_some, Bool.true_and]

theorem i_curAS {p : den tPacket} (h : SmB 68719476736 tPacket p) : i_CurrentAS p = some (curAS p) := by
  unfold i_CurrentAS
  simp only [peta, i_hop h, obind_some]
  cases c : hasHop p with
  | false => rw [curAS_no c]; rfl
  | true =>
    obtain ⟨i, j, x, y, h1, h2, h3, h4, h5⟩ := hasHop_iff c
    rw [h1, h2, h5]
    simp only [Bool.not_true, cond_false, idx_nat, h3, h4, obind_some]

theorem s_curAS {p : den tPacket} (h : SmB 68719476736 tPacket p) : s_CurrentAS p = some (curAS p) := by
  unfold s_CurrentAS
  have l1 := h.2.2.2.1.1
  rw [s_in, wr_len l1, obind_some]
  cases c1 : inR p.2.2.2.2.1 0 ((p.2.2.2.1.length : Int) - 1) with
  | false => rw [curAS_no (by unfold hasHop; rw [c1]; rfl)]; rfl
  | true =>
    have c1' := c1
    rw [inR_iff] at c1'
    obtain ⟨x, hx⟩ := get_some c1'.1 c1'.2
    rw [idx_of c1'.1 hx]
    have l2 := (h.2.2.2.1.2 _ (List.mem_of_getElem? hx)).2.2.2.1
    simp only [Bool.not_true, cond_false, obind_some, s_in, wr_len l2]
    cases c2 : inR p.2.2.2.2.2.1 0 ((x.2.2.2.length : Int) - 1) with
    | false => rw [curAS_no (by unfold hasHop; rw [c1, hx, Option.getD_some, c2]; rfl)]; rfl
    | true =>
      have c : hasHop p = true := by unfold hasHop; rw [c1, hx, Option.getD_some, c2]; rfl
      rw [inR_iff] at c2
      obtain ⟨y, hy⟩ := get_some c2.1 c2.2
      rw [idx_of c2.1 hy]
      unfold curAS
      rw [c, if_pos rfl, hx, Option.getD_some, hy, Option.getD_some]
      rfl

def truncAt (p : den tPath) (i j : Nat) : den tPath :=
  match p[i]? with
  | some x => p.take i ++ [(x.1, x.2.1, x.2.2.1, x.2.2.2.take (j + 1))]
  | none => []

def truncP (p : den tPacket) : den tPath := if curAS p < 0 then [] else truncAt p.2.2.2.1 p.2.2.2.2.1.toNat p.2.2.2.2.2.1.toNat

theorem i_truncP {p : den tPacket} (h : SmB 68719476736 tPacket p) : i_TruncatePath p = some (truncP p) := by
  unfold i_TruncatePath truncP
  simp only [peta, i_curAS h, obind_some]
  by_cases hc : curAS p < 0
  · rw [decide_eq_true hc, cond_true, if_pos hc]
  · rw [decide_eq_false hc, cond_false, if_neg hc]
    cases c : hasHop p with
    | false => rw [curAS_no c] at hc; exact absurd (by decide) hc
    | true =>
      obtain ⟨i, j, x, y, h1, h2, h3, h4, h5⟩ := hasHop_iff c
      have l1 := h.2.2.2.1.1
      have l2 := (h.2.2.2.1.2 _ (List.mem_of_getElem? h3)).2.2.2.1
      have hi := (List.getElem?_eq_some_iff.1 h3).1
      have hj := (List.getElem?_eq_some_iff.1 h4).1
      have e1 : wr ((i : Int) + 1) = ((i + 1 : Nat) : Int) := by have : wr ((i : Int) + 1) = (i : Int) + 1 := wrap_in (by omega) (by omega); rw [this]; rfl
      have e2 : wr ((j : Int) + 1) = ((j + 1 : Nat) : Int) := by have : wr ((j : Int) + 1) = (j : Int) + 1 := wrap_in (by omega) (by omega); rw [this]; rfl
      have e3 : slOk (0 : Int) ((i + 1 : Nat) : Int) (p.2.2.2.1.length : Int) = true := by simp [slOk]; omega
      have e4 : slOk (0 : Int) ((j + 1 : Nat) : Int) (x.2.2.2.length : Int) = true := by simp [slOk]; omega
      have e5 : p.2.2.2.1.take (i + 1) = p.2.2.2.1.take i ++ [x] := take_succ h3
      have e6 : (p.2.2.2.1.take i).length = i := by rw [List.length_take]; omega
      rw [h1, h2, e1, e2, i_copyP h.2.2.2.1, obind_some, e3, cond_true]
      simp only [Int.toNat_natCast, e5]
      have e7 : decide ((i : Int) < ((p.2.2.2.1.take i ++ [x]).length : Int)) = true := by simp; omega
      have e8 : (p.2.2.2.1.take i ++ [x])[i]? = some x := by rw [List.getElem?_append_right (by omega), e6]; simp
      have e9 : ∀ z, (p.2.2.2.1.take i ++ [x]).set i z = p.2.2.2.1.take i ++ [z] := fun z => by rw [List.set_append_right _ _ (by omega), e6]; simp
      simp only [pos_nat, e7, e8, e4, e9, cond_true, obind_some, cut_take, decide_true]
      unfold truncAt
      rw [h3]

theorem s_truncP {p : den tPacket} (h : SmB 68719476736 tPacket p) : s_TruncatePath p = some (truncP p) := by
  unfold s_TruncatePath truncP
  simp only [peta, s_curAS h, obind_some]
  by_cases hc : curAS p < 0
  · rw [decide_eq_true hc, cond_true, if_pos hc]
  · rw [decide_eq_false hc, cond_false, if_neg hc]
    cases c : hasHop p with
    | false => rw [curAS_no c] at hc; exact absurd (by decide) hc
    | true =>
      obtain ⟨i, j, x, y, h1, h2, h3, h4, h5⟩ := hasHop_iff c
      have l1 := h.2.2.2.1.1
      have hi := (List.getElem?_eq_some_iff.1 h3).1
      have hj := (List.getElem?_eq_some_iff.1 h4).1
      have l2 := (h.2.2.2.1.2 _ (List.mem_of_getElem? h3)).2.2.2.1
      have e2 : wr ((j : Int) + 1) = ((j + 1 : Nat) : Int) := by have : wr ((j : Int) + 1) = (j : Int) + 1 := wrap_in (by omega) (by omega); rw [this]; rfl
      have e4 : slOk (0 : Int) ((j + 1 : Nat) : Int) (x.2.2.2.length : Int) = true := by simp [slOk]; omega
      have e5 : p.2.2.2.1.take (i + 1) = p.2.2.2.1.take i ++ [x] := take_succ h3
      have e6 : (p.2.2.2.1.take (i + 1)).length = i + 1 := by rw [List.length_take]; omega
      rw [h1, h2, e2]
      let cutX : Nat → den tPathPart → den tPathPart := fun k z => if k = i then (z.1, z.2.1, z.2.2.1, z.2.2.2.take (j + 1)) else z
      rw [loopG (fun k (a : List (den tPathPart)) => ((k : Int), a)) ((0 : Int), []) [] (p.2.2.2.1.take (i + 1)) (fun k z a => a ++ [cutX k z]) List.length (fun _ => 1) 68719476736 id rfl (by omega) (by rw [sum_one]; simp; omega) (fun k z a => by simp) (fun k z a hz hx hd hw hk hb => by
        rw [e6] at hd hk
        have hz' := (get_take hx).1
        have hd' : decide ((k : Int) ≤ (i : Int)) = true := by simp; omega
        have sz := h.2.2.2.1.2 _ (List.mem_of_getElem? hz')
        simp only [hd', hw, cond_true, obind_some, idx_nat, hz', peta, s_copyPt sz]
        by_cases hki : k = i
        · subst hki
          rw [h3] at hz'
          injection hz' with hz'
          subst hz'
          have e7 : ((k : Int) == (k : Int)) = true := by simp
          simp only [e7, cond_true, e4, obind_some, cut_take, apOk_le (b := 48) (n := a.length) (m := 1) (by decide) hb, cutX, if_true]
        · have e7 : ((k : Int) == (i : Int)) = false := by simp; omega
          simp only [e7, cond_false, obind_some, apOk_le (b := 48) (n := a.length) (m := 1) (by decide) hb, cond_true, cutX, if_neg hki]) (fun a => by
        have e10 : decide (((i + 1 : Nat) : Int) ≤ (i : Int)) = false := by simp <;> omega
        rw [e6]; simp only [e10, cond_false]; rfl)]
      have key : ∀ (l : List (den tPathPart)) (k : Nat) (a : List (den tPathPart)), k + l.length ≤ i → foldI (fun k z a => a ++ [cutX k z]) k l a = a ++ l := by
        intro l
        induction l with
        | nil => intro k a _; simp [foldI]
        | cons z l ih =>
          intro k a hk
          simp only [List.length_cons] at hk
          simp only [foldI]
          rw [ih (k + 1) _ (by omega)]
          have : cutX k z = z := if_neg (by omega)
          rw [this]; simp
      have fa : ∀ (l : List (den tPathPart)) (z : den tPathPart) (k : Nat) (a : List (den tPathPart)), foldI (fun k z a => a ++ [cutX k z]) k (l ++ [z]) a = foldI (fun k z a => a ++ [cutX k z]) k l a ++ [cutX (k + l.length) z] := by
        intro l
        induction l with
        | nil => intro z k a; rfl
        | cons y l ih =>
          intro z k a
          simp only [List.cons_append, foldI, List.length_cons]
          rw [ih]
          congr 3
          omega
      have e8 : (p.2.2.2.1.take i).length = i := by rw [List.length_take]; omega
      rw [e5, fa, key _ 0 [] (by omega), e8]
      have : cutX (0 + i) x = (x.1, x.2.1, x.2.2.1, x.2.2.2.take (j + 1)) := if_pos (by omega)
      rw [this]
      unfold truncAt
      rw [Int.toNat_natCast, Int.toNat_natCast, h3]
      rfl

theorem truncAt_tot (p : den tPath) (i j : Nat) : tot tPath (truncAt p i j) ≤ tot tPath p := by
  unfold truncAt
  cases h : p[i]? with
  | none => exact Nat.zero_le _
  | some x =>
    have h1 : tot tPath (p.take (i + 1)) ≤ tot tPath p := tot_take (t := tPathPart) p (i + 1)
    rw [take_succ h] at h1
    have h2 : tot (.sl tPathPart) (p.take i ++ [x]) ≤ tot (.sl tPathPart) p := h1
    show tot (.sl tPathPart) (p.take i ++ [(x.1, x.2.1, x.2.2.1, x.2.2.2.take (j + 1))]) ≤ tot (.sl tPathPart) p
    rw [tot_app, tot_one] at h2 ⊢
    have h3 : tot tPathPart (x.1, x.2.1, x.2.2.1, x.2.2.2.take (j + 1)) ≤ tot tPathPart x := by
      have := tot_take (t := tHop) x.2.2.2 (j + 1)
      show 0 + (0 + (0 + tot (.sl tHop) (x.2.2.2.take (j + 1)))) ≤ 0 + (0 + (0 + tot (.sl tHop) x.2.2.2))
      omega
    omega

theorem truncP_tot (p : den tPacket) : tot tPath (truncP p) ≤ tot tPath p.2.2.2.1 := by
  unfold truncP
  split
  · exact Nat.zero_le _
  · exact truncAt_tot _ _ _

end Go.Proofs.Ytdbdocgoojoleaa
