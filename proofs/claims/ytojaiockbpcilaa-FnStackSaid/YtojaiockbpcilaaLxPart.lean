/- Elements, parts, fields, literals of structs: the rest of what only computes. -/
import Derived.Test.YtojaiockbpcilaaLxMem
import Derived.Laws.Slices
import Derived.Great.FillDense
set_option linter.unusedVariables false
set_option linter.unusedSimpArgs false
namespace Go.LX

variable {P : Program} {σ : St}

/-! ### Elements -/
/-- A view's data, off the object's own cells. -/
theorem CR.slV [Glob] {K : Ctx} {w : World} {I : Nat → Prop} {g : Gh} {tm : Array Value} (hi : Inv K w I g σ tm) {o : Nat} {r : Rf} {u : Value} {e : Ty} {ys : List e.T} {e0 : TypeId} {t : Ty} {xs : List t.T} (hq : σ.objs o = some (.rows e0 t true xs)) (h : CR w I g σ.objs (.rf o r) u)
    (hr : (∃ t x, r = .vw t x) ∨ ∃ i j, r = .ns i j) (hc : LX.slC σ.objs (.rf o r) = some ⟨e, ys⟩) : RT w (fun b => I b ∨ (b ∈ g.L o ∧ (g.base o).ownBlock ≠ some b)) (.sl e) ys [u] := by
  have h' : seeO w I (g.addr o) (g.base o) (g.L o) (σ.objs o) r u := h
  rw [hq] at h'
  rcases hr with ⟨t', x, rfl⟩ | ⟨i, j, rfl⟩
  · cases t' with
    | sl e' =>
      simp only [LX.slC, hq, Option.some.injEq, Sigma.mk.injEq] at hc
      obtain ⟨rfl, hc⟩ := hc
      cases hc
      exact h'
    | _ => simp [LX.slC] at hc
  · obtain ⟨_, b, f1, cap, h1, h2, h3⟩ := h'
    simp only [LX.slC, hq] at hc
    have hob := hi.rows hq
    rw [h1] at hob
    obtain ⟨us, L0, hL0, hrow, hcell⟩ := own_row hob h2
    have hx : xs.getD i (dflt t) = xs[i] := by simp [List.getD_eq_getElem?_getD, h2]
    rw [hx] at hc
    split at hc
    · rename_i e' ys' hce
      cases hc
      have hrt := OT.rt hrow
      obtain ⟨v, hv, hrv⟩ := RT.cell hrt hce
      have := (hcell j v hv).1
      rw [h3] at this
      cases this
      refine hrv.sub fun x hx => .inr ⟨(hL0 x hx).1, ?_⟩
      rw [h1]
      have := (hL0 x hx).2 (hi.nod o)
      simpa [Value.ownBlock] using Ne.symm this
    · cases hc

def szOK (n : Nat) (t : Ty) (r : Prop × C) : Option (Prop × C) := bif Nat.beq n t.w then some r else none
def ixR (o : Nat) (n : Nat) (i : Int) : Ob → Option (Σ e : Ty, List e.T) → Rf → Option (Prop × C)
  | .rows _ t _ xs, _, .ar => szOK n t (0 ≤ i ∧ i < (xs.length : Int), .rf o (.pe i.toNat 0))
  | .rows _ t _ _, _, .sb off len => szOK n t (0 ≤ i ∧ i < (len : Int), .rf o (.pe (off + i.toNat) 0))
  | .rows _ _ true _, some ⟨t, xs⟩, .vw _ _ => szOK n t (0 ≤ i ∧ i < (xs.length : Int), .rf o (.vp t (xs.getD i.toNat (dflt t)) 0))
  | .rows _ _ true _, some ⟨t, xs⟩, .ns _ _ => szOK n t (0 ≤ i ∧ i < (xs.length : Int), .rf o (.vp t (xs.getD i.toNat (dflt t)) 0))
  | .fz _ _ _, some ⟨t, xs⟩, _ => szOK n t (0 ≤ i ∧ i < (xs.length : Int), .pd t (xs.getD i.toNat (dflt t)) 0)
  | .cells _, _, .as wd m _ => bif Nat.beq n wd then some (0 ≤ i ∧ i < (m : Int), .rf o (.pb (i.toNat * wd))) else none
  | _, _, _ => none
def ixC (ob : Nat → Option Ob) (n : Nat) (i : Int) : C → Option (Prop × C)
  | .d (.sl t) xs => szOK n t (0 ≤ i ∧ i < (xs.length : Int), .pd t (xs.getD i.toNat (dflt t)) 0)
  | .rf o r => match ob o with
    | some q => ixR o n i q (slC ob (.rf o r)) r
    | none => none
  | _ => none
theorem szOK_ok {n : Nat} {t : Ty} {r r' : Prop × C} (h : szOK n t r = some r') : n = t.w ∧ r' = r := by
  unfold szOK at h
  cases hb : Nat.beq n t.w with
  | false => rw [hb] at h; cases h
  | true => rw [hb] at h; cases h; exact ⟨Nat.eq_of_beq_eq_true hb, rfl⟩
theorem getD_at {α : Type} {xs : List α} {i : Nat} (h : i < xs.length) (d : α) : xs.getD i d = xs[i] := by simp [List.getD_eq_getElem?_getD, h]
theorem RT.at {w : World} {S : Nat → Prop} {t : Ty} {xs : List t.T} {u : Value} {i : Nat} (h : RT w S (.sl t) xs [u]) (hi : i < xs.length) (d : t.T) : ∃ b f len cap, u = .slice (some ⟨b, f, none⟩) len cap ∧ len = xs.length ∧ PD w S t (xs.getD i d) 0 (.pointer (some ⟨b, f + i * t.w, none⟩)) := by
  obtain ⟨A, cap, hu, h1, h2, h3⟩ := h
  obtain ⟨b, o, vs, rfl, hc, hr⟩ := h3 i _ (List.getElem?_eq_getElem hi)
  rw [getD_at hi]
  simp at hu
  exact ⟨b, o, _, cap, hu, rfl, b, o + i * t.w, vs, rfl, hc, hr⟩
theorem own_base {w : World} {I : Nat → Prop} {dp : Bool} {e : TypeId} {t : Ty} {xs : List t.T} {u : Value} {L : List Nat} (h : OA w I dp e t xs u L) (hn : 0 < xs.length) : ∃ b f cap, u = .slice (some ⟨b, f, none⟩) xs.length cap := by
  obtain ⟨vs, L', ho, _, _⟩ := h
  rcases ho.2 with ⟨_, h0⟩ | ⟨b, f, cap, cur, hu, _⟩
  · omega
  · exact ⟨b, f, cap, hu⟩
theorem ixC_ok [Glob] {K : Ctx} {w : World} {I : Nat → Prop} {g : Gh} {tm : Array Value} (hi : Inv K w I g σ tm) {n : Nat} {i : Int} {c c' : C} {u : Value} {p : Prop} (h : CR w I g σ.objs c u) (hc : ixC σ.objs n i c = some (p, c')) (hp : p) :
    ∃ b f len cap, u = .slice (some ⟨b, f, none⟩) len cap ∧ 0 ≤ i ∧ i < (len : Int) ∧ CR w I g σ.objs c' (.pointer (some ⟨b, f + i.toNat * n, none⟩)) := by
  unfold ixC at hc
  split at hc
  · rename_i t xs
    obtain ⟨rfl, e⟩ := szOK_ok hc
    cases e
    obtain ⟨b, f, len, cap, rfl, rfl, h3⟩ := RT.at (t := t) h (i := i.toNat) (by omega) (dflt t)
    exact ⟨b, f, _, cap, rfl, hp.1, hp.2, h3⟩
  · rename_i o r
    split at hc
    · rename_i q hq
      have h' : seeO w I (g.addr o) (g.base o) (g.L o) (σ.objs o) r u := h
      rw [hq] at h'
      have see' : ∀ {r' : Rf} {v : Value}, see w I (g.addr o) (g.base o) (g.L o) q r' v → CR w I g σ.objs (.rf o r') v := fun hv => by
        show seeO _ _ _ _ _ (σ.objs o) _ _
        rw [hq]; exact hv
      generalize hsl : LX.slC σ.objs (.rf o r) = so at hc
      cases q with
      | dead => simp [ixR] at hc
      | cells cs =>
        cases r with
        | as wd m e =>
          simp only [ixR] at hc
          cases hb : Nat.beq n wd with
          | false => rw [hb] at hc; cases hc
          | true =>
            rw [hb] at hc
            obtain rfl := Nat.eq_of_beq_eq_true hb
            cases hc
            obtain ⟨rfl, h2, h3⟩ := h'
            exact ⟨_, _, _, _, rfl, hp.1, hp.2, see' rfl⟩
        | _ => simp [ixR] at hc
      | rows e t dp xs =>
        have viewed : ∀ {t1 : Ty} {ys : List t1.T} {d : t1.T}, dp = true → ((∃ t x, r = .vw t x) ∨ ∃ i j, r = .ns i j) → so = some ⟨t1, ys⟩ → 0 ≤ i ∧ i < (ys.length : Int) →
            ∃ b f len cap, u = .slice (some ⟨b, f, none⟩) len cap ∧ 0 ≤ i ∧ i < (len : Int) ∧ CR w I g σ.objs (.rf o (.vp t1 (ys.getD i.toNat d) 0)) (.pointer (some ⟨b, f + i.toNat * t1.w, none⟩)) := by
          intro t1 ys d hdp hr hso hp
          subst hdp
          rw [hso] at hsl
          obtain ⟨b, f, len, cap, rfl, rfl, h3⟩ := (CR.slV hi hq h hr hsl).at (i := i.toNat) (by omega) d
          exact ⟨b, f, _, cap, rfl, hp.1, hp.2, see' h3⟩
        cases r with
        | ar =>
          simp only [ixR] at hc
          obtain ⟨rfl, e⟩ := szOK_ok hc
          cases e
          have hu : u = g.base o := h'
          subst hu
          obtain ⟨b, f, cap, hb⟩ := own_base (hi.rows hq) (by omega)
          exact ⟨b, f, _, cap, hb, hp.1, hp.2, see' ⟨b, f, cap, hb, by omega, by simp⟩⟩
        | sb off len =>
          simp only [ixR] at hc
          obtain ⟨rfl, e⟩ := szOK_ok hc
          cases e
          obtain ⟨A, cap, B, c0, e1, rfl, e2, e3, e4, e5⟩ := h'
          obtain ⟨b, f, rfl, rfl⟩ := e5 (by omega)
          refine ⟨b, f + off * t.w, _, c0, rfl, hp.1, hp.2, see' ⟨b, f, cap, e1, by omega, ?_⟩⟩
          rw [Nat.add_zero, Nat.add_mul, Nat.add_assoc]
        | vw t1 x1 =>
          cases dp with
          | false => simp [ixR] at hc
          | true =>
            cases hso : so with
            | none => rw [hso] at hc; simp [ixR] at hc
            | some y =>
              obtain ⟨t2, ys⟩ := y
              rw [hso] at hc
              simp only [ixR] at hc
              obtain ⟨rfl, e⟩ := szOK_ok hc
              cases e
              exact viewed rfl (.inl ⟨_, _, rfl⟩) hso hp
        | ns i1 j1 =>
          cases dp with
          | false => simp [ixR] at hc
          | true =>
            cases hso : so with
            | none => rw [hso] at hc; simp [ixR] at hc
            | some y =>
              obtain ⟨t2, ys⟩ := y
              rw [hso] at hc
              simp only [ixR] at hc
              obtain ⟨rfl, e⟩ := szOK_ok hc
              cases e
              exact viewed rfl (.inr ⟨_, _, rfl⟩) hso hp
        | _ => simp [ixR] at hc
      | fz t dp xs =>
        cases hso : so with
        | none => rw [hso] at hc; simp [ixR] at hc
        | some y =>
          obtain ⟨t2, ys⟩ := y
          rw [hso] at hc hsl
          simp only [ixR] at hc
          obtain ⟨rfl, e⟩ := szOK_ok hc
          cases e
          have hL : g.L o = [] := by have hob := hi.obj o; unfold ObR at hob; rw [hq] at hob; exact hob.1
          have hrt := CR.slC hi h hsl
          simp only [C.oid, hL, List.not_mem_nil, or_false] at hrt
          obtain ⟨b, f, len, cap, rfl, rfl, h3⟩ := hrt.at (i := i.toNat) (by omega) (dflt t2)
          exact ⟨b, f, _, cap, rfl, hp.1, hp.2, h3⟩
    · cases hc
  · cases hc
/-- An array's length and elements. -/
def arrB (P : Program) (ty : TypeId) : Option (Nat × TypeId) := match P.underlying ty with
  | some (.array n e) => some (n, e)
  | _ => none
def ixA (P : Program) (ty : TypeId) (t : Ty) (xs : List t.T) (i : Int) : Option (Prop × SV) :=
  (arrB P ty).bind fun ne => (sizeB P ne.2).bind fun n => bif Nat.beq n t.w && Nat.beq ne.1 xs.length then some (0 ≤ i ∧ i < (xs.length : Int), .one (.pd t (xs.getD i.toNat (dflt t)) 0)) else none
def evIxA (P : Program) (ob : Nat → Option Ob) (ty : TypeId) : SV → SV → Option (Prop × SV)
  | .one (.pa t xs), .one (.d (.i _) i) => ixA P ty t xs i
  | .one (.pa t xs), .one (.d .u8 i) => ixA P ty t xs (i.toNat : Int)
  | .one c, .one (.d (.i _) i) => (elemB P ty).bind fun e => (sizeB P e).bind fun n => (ixC ob n i c).map fun x => (x.1, .one x.2)
  | .one c, .one (.d .u8 i) => (elemB P ty).bind fun e => (sizeB P e).bind fun n => (ixC ob n (i.toNat : Int) c).map fun x => (x.1, .one x.2)
  | _, _ => none
theorem evIxA_ok [Glob] {o : Oper} {ty : TypeId} {x y : Operand} {p : Prop} {s : SV} (ho : o.op = .indexAddr ty x y) (h : evIxA P σ.objs ty (σ.ev x) (σ.ev y) = some (p, s)) : PureOK P σ o p s := by
  intro K w I g tm hi hp
  have arr : ∀ {t : Ty} {xs : List t.T} {k : IntKind} {i : Int}, σ.ev x = .one (.pa t xs) → Act.eval ⟨tm, []⟩ y = .int k i → ixA P ty t xs i = some (p, s) → ∃ u, (execOp (Act.eval ⟨tm, []⟩) o).run P w = .ok (.value u) w ∧ ShapeOK s u ∧ ∀ (i : Nat) (c : C), s.cells[i]? = some c → ∃ v, (valCells u)[i]? = some v ∧ CR w I g σ.objs c v := by
    intro t xs k i hx hy h
    unfold ixA at h
    simp only [Option.bind_eq_some_iff] at h
    obtain ⟨⟨m, e⟩, hm, n, hn, h⟩ := h
    cases hb : (Nat.beq n t.w && Nat.beq m xs.length) with
    | false => rw [hb] at h; cases h
    | true =>
      rw [hb] at h
      simp only [cond_true, Option.some.injEq, Prod.mk.injEq] at h
      obtain ⟨rfl, rfl⟩ := h
      obtain ⟨b1, b2⟩ := Bool.and_eq_true_iff.1 hb
      have b1 := Nat.eq_of_beq_eq_true b1
      have b2 := Nat.eq_of_beq_eq_true b2
      subst b1 b2
      obtain ⟨b, f, hu, hr⟩ : PA w I t xs (Act.eval ⟨tm, []⟩ x) := (hi.ev_one hx).1
      have hty : P.underlying ty = some (.array xs.length e) := by
        unfold arrB at hm
        split at hm
        · rename_i h; cases hm; exact h
        · cases hm
      have hlt : i.toNat < xs.length := by omega
      obtain ⟨vs, hc, hrt⟩ := hr i.toNat _ (List.getElem?_eq_getElem hlt)
      have hrun : (Instr.indexAt ty (.pointer (some ⟨b, f, none⟩)) (.int k i)).run P w = .ok (.pointer (some ⟨b, f + i.toNat * t.w, none⟩)) w := by
        simp [Instr.indexAt, asIntOf, run_underlying hty, Instr.sureAddr, hp.1, hp.2, run_sizeB hn, addr_add]
      refine ⟨.pointer (some ⟨b, f + i.toNat * t.w, none⟩), by simp [execOp, ho, hu, hy, hrun], shape_one rfl ?_⟩
      rw [getD_at hlt]
      exact ⟨b, f + i.toNat * t.w, vs, rfl, hc, hrt⟩
  have fin : ∀ {c : C} {k : IntKind} {i : Int}, σ.ev x = .one c → Act.eval ⟨tm, []⟩ y = .int k i → ((elemB P ty).bind fun e => (sizeB P e).bind fun n => (ixC σ.objs n i c).map fun x => (x.1, SV.one x.2)) = some (p, s) → ∃ u, (execOp (Act.eval ⟨tm, []⟩) o).run P w = .ok (.value u) w ∧ ShapeOK s u ∧ ∀ (i : Nat) (c : C), s.cells[i]? = some c → ∃ v, (valCells u)[i]? = some v ∧ CR w I g σ.objs c v := by
    intro c k i hx hy h
    simp only [Option.bind_eq_some_iff, Option.map_eq_some_iff] at h
    obtain ⟨e, he, n, hn, ⟨p', c'⟩, hic, hps⟩ := h
    simp only [Prod.mk.injEq] at hps
    obtain ⟨rfl, rfl⟩ := hps
    obtain ⟨b, f, len, cap, hu, h0, h1, hr⟩ := ixC_ok hi (hi.ev_one hx).1 hic hp
    obtain ⟨m, rfl⟩ := Int.eq_ofNat_of_zero_le h0
    have := run_indexAt (P := P) (k := k) (b := b) (o := f) (cap := cap) (elemB_ok he) hn (show m < len by omega) w
    exact ⟨_, by simp [execOp, ho, hu, hy, this], shape_one rfl hr⟩
  unfold evIxA at h
  split at h
  · rename_i hx hy; exact arr hx (hi.ev_i hy) h
  · rename_i hx hy; exact arr hx (hi.ev_u8 hy) h
  · rename_i hx hy; exact fin hx (hi.ev_i hy) h
  · rename_i hx hy; exact fin hx (hi.ev_u8 hy) h
  · cases h
/-- A byte of a string. -/
def evIx (P : Program) (ty : TypeId) : SV → SV → Option (Prop × SV)
  | .one (.d .st s), .one (.d (.i _) i) => bif isStrB P ty then some (0 ≤ i ∧ i < (s.length : Int), .one (.d .u8 (s.getD i.toNat 0))) else none
  | .one (.d .st s), .one (.d .u8 i) => bif isStrB P ty then some ((i.toNat : Int) < (s.length : Int), .one (.d .u8 (s.getD i.toNat 0))) else none
  | _, _ => none
theorem run_ixStr {ty : TypeId} (hs : isStrB P ty = true) {s : List UInt8} {k : IntKind} {i : Nat} (h : i < s.length) (w : World) : (Instr.index ty (strV s) (.int k i)).run P w = .ok (.int .u8 ((s.getD i 0).toNat : Int)) w := by
  have e : (⟨s.toArray⟩ : ByteArray)[i]? = some (s.getD i 0) := by
    rw [getD_at h]
    have : i < (⟨s.toArray⟩ : ByteArray).size := by simpa [ByteArray.size] using h
    rw [getElem?_pos (⟨s.toArray⟩ : ByteArray) i this]
    rfl
  simp [Instr.index, asIntOf, run_underlying (isStrB_ok hs), strV, e]
theorem evIx_ok [Glob] {o : Oper} {ty : TypeId} {x y : Operand} {p : Prop} {s : SV} (ho : o.op = .index ty x y) (h : evIx P ty (σ.ev x) (σ.ev y) = some (p, s)) : PureOK P σ o p s := by
  unfold evIx at h
  split at h
  · rename_i s' k i hx hy
    cases hb : isStrB P ty with
    | false => rw [hb] at h; cases h
    | true =>
      rw [hb] at h
      simp only [cond_true, Option.some.injEq, Prod.mk.injEq] at h
      obtain ⟨rfl, rfl⟩ := h
      refine .u8 fun K w I g tm hi hp => ?_
      obtain ⟨h0, h1⟩ := hp
      obtain ⟨m, rfl⟩ := Int.eq_ofNat_of_zero_le h0
      have := run_ixStr (P := P) (k := k) hb (show m < List.length s' from Int.ofNat_lt.1 h1) w
      simp [execOp, ho, hi.ev_st hx, hi.ev_i hy, this]
  · rename_i s' i hx hy
    cases hb : isStrB P ty with
    | false => rw [hb] at h; cases h
    | true =>
      rw [hb] at h
      simp only [cond_true, Option.some.injEq, Prod.mk.injEq] at h
      obtain ⟨rfl, rfl⟩ := h
      refine .u8 fun K w I g tm hi hp => ?_
      have := run_ixStr (P := P) (k := .u8) hb (show UInt8.toNat i < List.length s' by omega) w
      simp [execOp, ho, hi.ev_st hx, hi.ev_u8 hy, this]
  · cases h
end Go.LX
