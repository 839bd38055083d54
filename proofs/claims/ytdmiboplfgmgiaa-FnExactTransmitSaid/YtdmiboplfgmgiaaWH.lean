/-
  What a callee does, by the shapes of what it takes and hands back; a call. Over any program. Conditions: none beyond the meaning.
-/
import Derived.Test.YtdmiboplfgmgiaaWG
set_option linter.unusedVariables false
set_option linter.unusedSectionVars false
namespace Go.V
open Go.Ab Go.RowKit
section
variable {P : Program} {w : World} {a : Act} {o : Oper} {B : Nat}

def ResIs (v : Value) : List Value → Prop
  | [u] => v = u
  | us => v = .tuple us.toArray

def Enters (P : Program) (f : FuncId) : Prop := ∀ (args : Array Value) (w : World), (callFunc f args).run P w = .ok (.enter f args) w

theorem enters_of {P : Program} {f : FuncId} {fn : Func} (hf : P.funcs[f]? = some fn) (hn : (fn.name == "runtime.NumGoroutine") = false) (hb : fn.body.isNone = false) : Enters P f := by
  intro args w
  have h1 : fn.name ≠ "runtime.NumGoroutine" := by simpa using hn
  have h2 : fn.body ≠ none := by intro h; rw [h] at hb; cases hb
  simp [callFunc, hf, h1, h2]

theorem exec_call {cl : Call} {f : FuncId} (hop : o.op = .call cl) (hf : cl.callee = .value (.func f)) (he : Enters P f) (w : World) : (execOp a.eval o).run P w = .ok (.enter f (cl.args.map a.eval)) w := by
  have h1 := he (cl.args.map a.eval ++ #[]) w
  simp only [execOp, hop, resolve, hf, Act.eval, Sem.run_bind]
  simp [Deferred.ofValue, invoke]
  simpa using h1

def rvSem (tmps : Array Value) : ResultVar → Sem Value
  | .tmp t => pure (tmps.getD t undef)
  | .cell ad t => do loadVar t (← asAddr (tmps.getD ad undef))

theorem results_eq (fn : Func) (tmps : Array Value) : results fn tmps = (do let vs ← fn.results.mapM (rvSem tmps); pure (if h : vs.size = 1 then vs[0] else .tuple vs)) := by
  have : (rvSem tmps) = (fun | .tmp t => pure (tmps.getD t undef) | .cell a t => do loadVar t (← asAddr (tmps.getD a undef))) := by
    funext r; cases r <;> rfl
  rw [this]
  rfl

end

section
variable {X : Ctx} {E : List Con} {f : F} {a : Act} {w : World} {o : Oper} {R : Type} {K : F → Option R} {r : R}

theorem evMem_sound (h : At X f a w) (hsf : f.subFree) (hd : inFrame X.n o.dst = true) (hv : evMem X.P f o.dst K o.op = some r) : Goes X E o a w f K r := by
  unfold evMem at hv
  split at hv
  · rename_i t hop
    split at hv
    · rename_i d i hdst hi
      split at hv
      · rename_i z hz
        split at hv
        · rename_i hp; exact alloc_goes h hsf hop hdst hd hi hz hp hv
        · cases hv
      · cases hv
    · cases hv
  · rename_i t x hop
    split at hv
    · rename_i d y hdst hx
      split at hv
      · rename_i hp; exact box_goes h hsf hop hdst hd hx hp.1 hp.2 hv
      · cases hv
    · cases hv
  · rename_i t p x hop
    split at hv
    · rename_i hdst
      unfold evStore at hv
      split at hv
      · rename_i i off y inf hp hx hi
        split at hv
        · rename_i cs hbx
          split at hv
          · rename_i hc; exact storeBox_goes h hsf hop hdst hp hx hi hbx hc.1 hc.2.1 hc.2.2 hv
          · cases hv
        · cases hv
      · rename_i q k i off y inf hp hx hi
        split at hv
        · rename_i e k' ty l deep hrow
          split at hv
          · rename_i ids dp hmv
            split at hv
            · rename_i hc
              obtain ⟨rfl, c1, c2, c3, c4⟩ := hc
              obtain ⟨_, rlen, _⟩ := id (show RowOk X.M _ _ w _ q e k ty l deep from (h.1.choose_spec.choose_spec.1).obj hrow)
              split at hv
              · rename_i hfull
                split at hv
                · rename_i z hdat
                  rcases cond_some hv with ⟨hil, hv⟩ | ⟨_, hv⟩
                  · have hil : i < l.length := by simpa using hil
                    refine storeRow_goes (n := 0) h hsf hop hdst hp hx hi hrow hmv c1 c2 c3 c4 hil ⟨cells ty z, dataL_all2 hdat, ?_⟩ hv
                    rw [hfull.1]
                    unfold sp
                    simp [cells_len]
                  · cases hv
                · cases hv
              · obtain ⟨el, hel, hv⟩ := bind_some hv
                have hil : i < l.length := (List.getElem?_eq_some_iff.1 hel).1
                have hele : l[i] = el := (List.getElem?_eq_some_iff.1 hel).2
                split at hv
                · rename_i z hdat
                  refine storeRow_goes (n := 0) h hsf hop hdst hp hx hi hrow hmv c1 c2 c3 c4 hil ?_ hv
                  obtain ⟨ts, h1, h2⟩ := dataL_sp (f := f) (by rw [rlen]; exact c2) hdat
                  exact ⟨ts, h1, by rw [hele]; exact h2⟩
                · cases hv
            · cases hv
          · cases hv
        · rename_i k' ty l hrow
          split at hv
          · rename_i hc
            obtain ⟨rfl, c1, c2, c3⟩ := hc
            obtain ⟨el, hel, hv⟩ := bind_some hv
            split at hv
            · rename_i tz z ty' z' hy hold
              split at hv
              · rename_i hf
                split at hv
                · rename_i el' hdat
                  exact storeWin_goes h hsf hop hdst hp hx hi hrow c1 c2 c3 hel hy hold hf.1 hf.2 hdat hv
                · cases hv
              · cases hv
            · cases hv
          · cases hv
        · cases hv
      · cases hv
    · cases hv
  · rename_i t x y hop
    split at hv
    · rename_i d e k1 n k2 m hdst ht hx hy
      split at hv
      · rename_i i ty hi hty
        split at hv
        · rename_i z hz
          split at hv
          · rename_i z0 hz0
            split at hv
            · rename_i hc
              rcases cond_some hv with ⟨hok, hv⟩ | ⟨_, hv⟩
              · exact make_goes h hsf hdst hd hop ht hx hy hi hz hz0 hc.1 hc.2.1 hc.2.2 hok hv
              · cases hv
            · cases hv
          · cases hv
        · cases hv
      · cases hv
    · cases hv
  · rename_i t len ps hop
    split at hv
    · rename_i d e hdst ht
      split at hv
      · rename_i i ty hi hty
        split at hv
        · rename_i es ids dp hl
          split at hv
          · rename_i hc
            obtain ⟨c1, c0, c2, c3, c4, c5, c6⟩ := hc
            exact lit_goes h hsf hdst hd hop ht hi hl c1 c0 c2 c3 c4 c5 c6 hv
          · cases hv
        · cases hv
      · cases hv
    · cases hv
  · rename_i cl hop
    split at hv
    · rename_i d s x t t' hdst hcal hargs htys
      split at hv
      · rename_i htt
        subst htt
        refine app_goes h hsf hdst hd ?_ hv
        rw [hop]
        congr 1
        obtain ⟨cal, ar, ty⟩ := cl
        simp only at hcal hargs htys
        obtain ⟨ar⟩ := ar
        obtain ⟨ty⟩ := ty
        simp only at hargs htys
        subst hcal hargs htys
        rfl
      · cases hv
    · cases hv
  · cases hv

/-! ### contracts -/
def actL (vs : List Value) : Act := { tmps := vs.toArray, defers := [] }
/-- Function fid, called on what the frame 'pre' says, returns what the frame 'post' says, and turns nothing but what it may write. -/
def Meets (P : Program) (fid : FuncId) (pre post : F) : Prop :=
  Enters P fid ∧ ∀ (w : World) (M src : Nat → Prop) (c : Cx) (ow : Nat → Option Nat) (vs : List Value),
    (∀ b, w.heap.size ≤ b → M b) → (∀ b, M b → src b) → SimC M src c ow pre (actL vs) w → vs.length = pre.fr.length →
    Calls P fid vs.toArray w fun e w' => ∃ v us c' ow', e = .returned v ∧ ResIs v us ∧ BelowM M w w' ∧ SimC M src c' ow' post (actL us) w' ∧ us.length = post.fr.length ∧ ∀ o, pinned o = true → c'.loc o = c.loc o ∧ c'.rv o = c.rv o
def Con.Ok (P : Program) (c : Con) : Prop := ∀ x y f g, c.sem x = some y → F0.inj c.pre x = some f → F0.inj c.post y = some g → Meets P c.f f g

/-! ### arguments -/
theorem ofTVs_to : ∀ {ts : List Ty} {xs : List TV} {y : denV ts}, ofTVs ts xs = some y → toTVs ts y = xs
  | [], [], y, h => rfl
  | [], _ :: _, y, h => by cases h
  | [t], [], y, h => by cases h
  | [t], [x], y, h => by
    obtain ⟨e, he⟩ := castTy_some h
    obtain ⟨tx, vx⟩ := x
    subst e
    subst he
    rfl
  | [t], _ :: _ :: _, y, h => by cases h
  | t :: t' :: ts, [], y, h => by cases h
  | t :: t' :: ts, x :: xs, y, h => by
    simp only [ofTVs] at h
    split at h
    · rename_i z zs h1 h2
      injection h with h
      subst h
      obtain ⟨e, he⟩ := castTy_some h1
      obtain ⟨tx, vx⟩ := x
      subst e
      subst he
      show _ :: toTVs (t' :: ts) zs = _
      rw [ofTVs_to h2]
    · cases h
/-- One cell handed over as data. -/
def ArgC (f : F) (d x : C) : Prop := ∃ (t : Ty) (y : den t), d = .v t y ∧ f.data t x = some y
theorem argC_inj {ct : CT} {x : C} {tvs : List TV} (h : argC f ct x = some tvs) (rest : List TV) : ∃ d, ct.inj (tvs ++ rest) = some (d, rest) ∧ ArgC f d x := by
  cases ct with
  | var t =>
    obtain ⟨y, hy, rfl⟩ := Option.map_eq_some_iff.1 h
    exact ⟨.v t y, by show (castTy t t y).map _ = _; rw [castTy_self]; rfl, t, y, rfl, hy⟩
  | _ => cases h
theorem argL_inj : ∀ {cts : List CT} {cs : List C} {tvs : List TV}, argL f cts cs = some tvs → ∀ rest, ∃ ds, injL cts (tvs ++ rest) = some (ds, rest) ∧ All2 (ArgC f) ds cs
  | [], [], tvs, h, rest => by injection h with h; subst h; exact ⟨[], rfl, .nil⟩
  | [], _ :: _, tvs, h, rest => by cases h
  | _ :: _, [], tvs, h, rest => by cases h
  | ct :: cts, x :: xs, tvs, h, rest => by
    simp only [argL] at h
    split at h
    · rename_i a b h1 h2
      injection h with h
      subst h
      obtain ⟨ds, g1, g2⟩ := argL_inj h2 rest
      obtain ⟨d, g3, g4⟩ := argC_inj h1 (b ++ rest)
      refine ⟨d :: ds, ?_, .cons g4 g2⟩
      rw [List.append_assoc]
      simp [injL, g3, g1]
    · cases h
def ArgA (f : F) : A → A → Prop
  | .one d, .one x => ArgC f d x
  | .agg ds, .agg xs => All2 (ArgC f) ds xs
  | _, _ => False
inductive ArgsR (f : F) : Nat → List (Nat × Nat × S) → List Operand → Prop
  | nil {i : Nat} : ArgsR f i [] []
  | cons {i : Nat} {d y : A} {x : Operand} {fr : List (Nat × Nat × S)} {xs : List Operand} (hx : f.get x = some (.val y)) (h : ArgA f d y) (hs : ArgsR f (i + 1) fr xs) : ArgsR f i ((i, 0, .val d) :: fr) (x :: xs)
theorem args_inj : ∀ {i : Nat} {hs : List (Nat × ST)} {xs : List Operand} {tvs : List TV}, argsOf f i hs xs = some tvs → ∀ rest, ∃ fr, injFr F0 hs (tvs ++ rest) = some (fr, rest) ∧ ArgsR f i fr xs
  | i, [], [], tvs, h, rest => by injection h with h; subst h; exact ⟨[], rfl, .nil⟩
  | i, [], _ :: _, tvs, h, rest => by cases h
  | i, _ :: _, [], tvs, h, rest => by cases h
  | i, (j, st) :: hs, x :: xs, tvs, h, rest => by
    simp only [argsOf] at h
    split at h
    · rename_i hij
      subst hij
      split at h
      · rename_i a b h1 h2
        injection h with h
        subst h
        obtain ⟨fr, g1, g2⟩ := args_inj h2 rest
        unfold argS at h1
        split at h1
        · rename_i ct y hg
          obtain ⟨d, g3, g4⟩ := argC_inj h1 (b ++ rest)
          refine ⟨(i, 0, .val (.one d)) :: fr, ?_, .cons hg g4 g2⟩
          rw [List.append_assoc, injFr, g3]
          simp only [g1]
          rfl
        · rename_i cts ys hg
          obtain ⟨ds, g3, g4⟩ := argL_inj h1 (b ++ rest)
          refine ⟨(i, 0, .val (.agg ds)) :: fr, ?_, .cons hg g4 g2⟩
          rw [List.append_assoc, injFr, g3]
          simp only [g1]
          rfl
        · cases h1
      · cases h
    · cases h
/-- Data behind a cell that is no row and no part of one: its blocks are let. -/
theorem data_ok {M src : Nat → Prop} {c : Cx} {ow : Nat → Option Nat} (h : SimC M src c ow f a w) {t : Ty} {x : C} {y : den t} {v : Value} (hd : f.data t x = some y) (hv : RelC c ow w (okB src c ow f.ob) v x) (hr : ∀ r, x ≠ .row r) (hs : x.isSub = false) : ∃ G, Rep w v (leafT t y) G ∧ ∀ b ∈ G, okB src c ow f.ob b := by
  unfold F.data at hd
  split at hd
  · obtain ⟨rfl, rfl⟩ := castTy_some hd
    exact hv
  · split at hd
    · injection hd with hd; subst hd
      have hv : v = .slice none 0 0 := hv
      subst hv
      exact ⟨[], .nil (Nat.zero_le _), by simp⟩
    · cases hd
  · rename_i r; exact absurd rfl (hr r)
  · cases hs
  · cases hd
end
end Go.V
