/- A part of the proof of the statement in the row text. -/
import Derived.Test.YtkpohcfohnmejaaGreatDoorLxNum
import Derived.Laws.Slices
import Derived.Great.FillDense
/- Loads, addresses, parts: operations that read memory. -/
set_option linter.unusedVariables false
set_option linter.unusedSimpArgs false
namespace Go.LX

variable {P : Program} {σ : St}

/-! ### Lengths -/
def isStrB (P : Program) (ty : TypeId) : Bool := match P.underlying ty with | some .string => true | _ => false
def elemB (P : Program) (ty : TypeId) : Option TypeId := match P.underlying ty with | some (.slice e) => some e | _ => none
theorem isStrB_ok {ty : TypeId} (h : isStrB P ty = true) : P.underlying ty = some .string := by
  unfold isStrB at h; split at h
  · assumption
  · cases h
theorem elemB_ok {ty e : TypeId} (h : elemB P ty = some e) : P.underlying ty = some (.slice e) := by
  unfold elemB at h; split at h
  · cases h; assumption
  · cases h
def isSlB (P : Program) (ty : TypeId) : Bool := (elemB P ty).isSome
/-- How long a slice is. -/
def lenC (ob : Nat → Option Ob) : C → Option Int
  | .nl => some 0
  | .z => some 0
  | .rf o (.as wd n e) => match ob o with
    | some (.cells _) => some n
    | _ => none
  | .d (.sl _) xs => some xs.length
  | c => (slC ob c).map fun x => (x.2.length : Int)
def evLen (P : Program) (ob : Nat → Option Ob) (ty : TypeId) : SV → Option SV
  | .one (.d .st s) => bif isStrB P ty then some (.one (.d (.i .i64) (s.length : Int))) else none
  | .one c => bif isSlB P ty then (lenC ob c).map fun n => .one (.d (.i .i64) n) else none
  | _ => none
theorem lenC_ok [Glob] {K : Ctx} {w : World} {I : Nat → Prop} {g : Gh} {tm : Array Value} (hi : Inv K w I g σ tm) {c : C} {u : Value} {n : Int} (h : CR w I g σ.objs c u) (hc : lenC σ.objs c = some n) : ∃ A m cap, u = .slice A m cap ∧ (m : Int) = n := by
  have sl : ∀ {x : Σ e : Ty, List e.T}, slC σ.objs c = some x → (x.2.length : Int) = n → ∃ A m cap, u = .slice A m cap ∧ (m : Int) = n := by
    intro x hx hn
    obtain ⟨A, cap, hu, _⟩ := h.slC hi (e := x.1) (xs := x.2) hx
    simp only [List.cons.injEq, and_true] at hu
    exact ⟨A, _, cap, hu, hn⟩
  unfold lenC at hc
  split at hc
  · cases hc; exact ⟨none, 0, 0, h, rfl⟩
  · cases hc; obtain ⟨A, rfl⟩ := h; exact ⟨A, 0, 0, rfl, rfl⟩
  · rename_i o wd n' e
    have h' : seeO w I (g.addr o) (g.base o) (g.L o) (σ.objs o) (.as wd n' e) u := h
    split at hc
    · rename_i hq; rw [hq] at h'; cases hc; exact ⟨_, n', n', h'.1, rfl⟩
    · cases hc
  · rename_i e xs
    simp only [Option.some.injEq] at hc
    exact sl (x := ⟨e, xs⟩) rfl hc
  · simp only [Option.map_eq_some_iff] at hc
    obtain ⟨x, hx, hn⟩ := hc
    exact sl hx hn
theorem evLen_ok [Glob] {o : Oper} {ty : TypeId} {x : Operand} {s : SV} (ho : o.op = .call { callee := .builtin .len, args := #[x], argTypes := #[ty] }) (h : evLen P σ.objs ty (σ.ev x) = some s) : PureOK P σ o True s := by
  unfold evLen at h
  split at h
  · rename_i s' hx
    cases hb : isStrB P ty with
    | false => rw [hb] at h; cases h
    | true =>
      rw [hb] at h
      simp only [cond_true, Option.some.injEq] at h
      subst h
      exact .i fun K w I g tm hi _ => by
        have e : (⟨s'.toArray⟩ : ByteArray).size = s'.length := by simp [ByteArray.size]
        simp [execOp, ho, resolve, invoke, builtin, Builtin.len_, hi.ev_st hx, run_underlying (isStrB_ok hb), strV, goInt]
        exact_mod_cast e
  · rename_i c _ hx
    cases hb : isSlB P ty with
    | false => rw [hb] at h; cases h
    | true =>
      rw [hb] at h
      simp only [cond_true, Option.map_eq_some_iff] at h
      obtain ⟨n, hn, rfl⟩ := h
      obtain ⟨e, he⟩ := Option.isSome_iff_exists.1 hb
      refine .i fun K w I g tm hi _ => ?_
      obtain ⟨A, m, cap, hu, hm⟩ := lenC_ok hi (hi.ev_one hx).1 hn
      simp [execOp, ho, resolve, invoke, builtin, Builtin.len_, hu, run_underlying (elemB_ok he), goInt, hm]
  · cases h

/-! ### What a pointer points to -/
def ldCells (ob : Nat → Option Ob) : C → Option (List C)
  | .pd t x j => some ((cellsOf t x).drop j)
  | .rf o (.pb c) => match ob o with
    | some (.cells cs) => some (cs.drop c)
    | _ => none
  | .rf o (.pe i j) => match ob o with
    | some (.rows _ t dp xs) => some ((bif dp then cellsN o i t (xs.getD i (dflt t)) 0 else cellsOf t (xs.getD i (dflt t))).drop j)
    | some (.fz t _ xs) => some ((cellsOf t (xs.getD i (dflt t))).drop j)
    | _ => none
  | .rf o (.vp t x j) => match ob o with
    | some (.rows _ _ true _) => some ((cellsV o t x).drop j)
    | some (.fz _ true _) => some ((cellsOf t x).drop j)
    | _ => none
  | _ => none
/-- Cells told of and as they lie. -/
def Lie (w : World) (I : Nat → Prop) (g : Gh) (ob : Nat → Option Ob) (cs : List C) (u : Value) : Prop :=
  ∃ b f, u = .pointer (some ⟨b, f, none⟩) ∧ ∀ (j : Nat) (c : C), cs[j]? = some c → ∃ v, w.cell? ⟨b, f + j, none⟩ = some v ∧ v.oneCell' = true ∧ CR w I g ob c v
theorem Lie.drop {w : World} {I : Nat → Prop} {g : Gh} {ob : Nat → Option Ob} {cs : List C} {b f j : Nat} (h : Lie w I g ob cs (.pointer (some ⟨b, f, none⟩))) : Lie w I g ob (cs.drop j) (.pointer (some ⟨b, f + j, none⟩)) := by
  obtain ⟨b', f', e, h⟩ := h
  cases e
  refine ⟨b, f + j, rfl, fun k c hk => ?_⟩
  rw [List.getElem?_drop] at hk
  rw [Nat.add_assoc]
  exact h _ c hk
theorem Lie.of {w : World} {I : Nat → Prop} {g : Gh} {ob : Nat → Option Ob} {cs : List C} {b f : Nat} {us : List Value} (h1 : ∀ (j : Nat) (c : C), cs[j]? = some c → ∃ v, us[j]? = some v ∧ CR w I g ob c v) (h2 : ∀ j u, us[j]? = some u → w.cell? ⟨b, f + j, none⟩ = some u) (h3 : ∀ u ∈ us, u.oneCell' = true) : Lie w I g ob cs (.pointer (some ⟨b, f, none⟩)) :=
  ⟨b, f, rfl, fun j c hj => by
    obtain ⟨v, hv, hc⟩ := h1 j c hj
    exact ⟨v, h2 j v hv, h3 v (List.mem_of_getElem? hv), hc⟩⟩
theorem OT.one {w : World} : ∀ {t : Ty} {x : t.T} {us : List Value} {L : List Nat}, OT w t x us L → ∀ u ∈ us, u.oneCell' = true := fun h => h.rt.one
theorem RR.one {w : World} {I : Nat → Prop} {dp : Bool} {t : Ty} {x : t.T} {us : List Value} {L : List Nat} (h : RR w I dp t x us L) : ∀ u ∈ us, u.oneCell' = true := h.rt.one
/-- Row i of an owned slice. -/
theorem own_row {w : World} {I : Nat → Prop} {dp : Bool} {e : TypeId} {t : Ty} {xs : List t.T} {b f n cap : Nat} {L : List Nat} (h : OA w I dp e t xs (.slice (some ⟨b, f, none⟩) n cap) L) {i : Nat} (hi : i < xs.length) :
    ∃ us L0, (∀ x ∈ L0, x ∈ L ∧ (L.Nodup → x ≠ b)) ∧ RR w I dp t xs[i] us L0 ∧ ∀ j u, us[j]? = some u → w.cell? ⟨b, f + i * t.w + j, none⟩ = some u ∧ w.frozen? ⟨b, f + i * t.w + j, none⟩ = false := by
  obtain ⟨vs, L', ho, hr, rfl⟩ := h
  obtain ⟨u1, us, u2, L1, L0, L2, rfl, rfl, e3, e4, _, h2, _⟩ := hr.at (fun _ _ _ h => h.len) (List.getElem?_eq_getElem hi)
  refine ⟨us, L0, fun x hx => ⟨by simp [hx], fun hn hb => ?_⟩, h2, fun j u hu => ?_⟩
  · subst hb
    simp [Value.ownBlock, hx] at hn
  · have hjl := (List.getElem?_eq_some_iff.1 hu).1
    refine ⟨?_, ?_⟩
    · have hcell := ho.cells (i * t.w + j) u (by
        rw [List.append_assoc, List.getElem?_append_right (by omega), e3, Nat.add_sub_cancel_left, List.getElem?_append_left hjl]; exact hu)
      rwa [← Nat.add_assoc] at hcell
    · exact ho.frozenAt _
theorem Inv.rows [Glob] {K : Ctx} {w : World} {I : Nat → Prop} {g : Gh} {tm : Array Value} (hi : Inv K w I g σ tm) {o : Nat} {e : TypeId} {t : Ty} {dp : Bool} {xs : List t.T} (h : σ.objs o = some (.rows e t dp xs)) : OA w I dp e t xs (g.base o) (g.L o) := by
  have hob := hi.obj o; unfold ObR at hob; rw [h] at hob; exact hob
theorem Inv.fz [Glob] {K : Ctx} {w : World} {I : Nat → Prop} {g : Gh} {tm : Array Value} (hi : Inv K w I g σ tm) {o : Nat} {t : Ty} {dp : Bool} {xs : List t.T} (h : σ.objs o = some (.fz t dp xs)) : RT w I (.sl t) xs [g.base o] := by
  have hob := hi.obj o; unfold ObR at hob; rw [h] at hob; exact hob.2
theorem Inv.cells [Glob] {K : Ctx} {w : World} {I : Nat → Prop} {g : Gh} {tm : Array Value} (hi : Inv K w I g σ tm) {o : Nat} {cs : List C} (h : σ.objs o = some (.cells cs)) : g.L o = [(g.addr o).1] ∧ BoxR K w I g σ.objs o cs := by
  have hob := hi.obj o; unfold ObR at hob; rw [h] at hob; exact hob

theorem ldCells_ok [Glob] {K : Ctx} {w : World} {I : Nat → Prop} {g : Gh} {tm : Array Value} (hi : Inv K w I g σ tm) {c : C} {u : Value} {cs : List C} (h : CR w I g σ.objs c u) (hc : ldCells σ.objs c = some cs) : Lie w I g σ.objs cs u := by
  unfold ldCells at hc
  split at hc
  · rename_i t x j
    cases hc
    obtain ⟨b, o, us, rfl, hca, hr⟩ := h
    exact (Lie.of (RT.cells hr) hca.2 hr.one).drop
  · rename_i o c0
    have h' : seeO w I (g.addr o) (g.base o) (g.L o) (σ.objs o) (.pb c0) u := h
    split at hc
    · rename_i cs0 hq
      rw [hq] at h'
      cases hc
      have hu : u = .pointer (some ⟨(g.addr o).1, (g.addr o).2 + c0, none⟩) := h'
      subst hu
      refine Lie.drop ⟨_, _, rfl, fun j c hj => ?_⟩
      obtain ⟨v, h1, _, h3, _, h5⟩ := (hi.cells hq).2 j c hj
      exact ⟨v, h1, h3, h5⟩
    · cases hc
  · rename_i o i j
    have h' : seeO w I (g.addr o) (g.base o) (g.L o) (σ.objs o) (.pe i j) u := h
    split at hc
    · rename_i e t dp xs hq
      rw [hq] at h'
      cases hc
      obtain ⟨b, f0, cap, hb, hlt, rfl⟩ := h'
      have hob := hi.rows hq
      rw [hb] at hob
      obtain ⟨us, L0, hL0, hr, hcell⟩ := own_row hob hlt
      have hx : xs.getD i (dflt t) = xs[i] := by simp [List.getD_eq_getElem?_getD, hlt]
      rw [hx]
      refine Lie.drop (Lie.of (us := us) ?_ (fun j u hu => (hcell j u hu).1) hr.one)
      cases dp with
      | false => exact RT.cells hr.2
      | true =>
        refine OT.cellsN hr fun j u hu hs => ?_
        rw [hq]
        exact ⟨by rw [Nat.zero_add]; exact hs, b, f0, cap, hb, hlt, by rw [Nat.zero_add]; exact (hcell j u hu).1⟩
    · rename_i t dp xs hq
      rw [hq] at h'
      cases hc
      obtain ⟨b, f0, cap, hb, hlt, rfl⟩ := h'
      have hob := hi.fz hq
      rw [hb] at hob
      obtain ⟨A, c0, e1, _, _, e4⟩ := hob
      obtain ⟨b', o', vs, rfl, hca, hrow⟩ := e4 i _ (List.getElem?_eq_getElem hlt)
      simp at e1
      obtain ⟨⟨rfl, rfl⟩, _⟩ := e1
      have hx : xs.getD i (dflt t) = xs[i] := by simp [List.getD_eq_getElem?_getD, hlt]
      rw [hx]
      exact Lie.drop (Lie.of (RT.cells hrow) (fun j u hu => hca.2 j u hu) hrow.one)
    · cases hc
  · rename_i o t x j
    have h' : seeO w I (g.addr o) (g.base o) (g.L o) (σ.objs o) (.vp t x j) u := h
    split at hc
    · rename_i e t0 xs hq
      rw [hq] at h'
      cases hc
      obtain ⟨b, o', us, rfl, hca, hr⟩ := h'
      exact (Lie.of (RT.cellsV hq hr) hca.2 hr.one).drop
    · rename_i t0 xs hq
      rw [hq] at h'
      cases hc
      obtain ⟨b, o', us, rfl, hca, hr⟩ := h'
      exact (Lie.of (RT.cells hr) hca.2 hr.one).drop
    · cases hc
  · cases hc

def evLoad (P : Program) (ob : Nat → Option Ob) (ty : TypeId) : SV → Option SV
  | .one c => (ldCells ob c).bind fun cs => match aggB P ty, sizeB P ty with
    | some false, _ => match cs with
      | c :: _ => some (.one c)
      | [] => none
    | some true, some n => bif Nat.ble n cs.length then some (.ag (cs.take n)) else none
    | _, _ => none
  | _ => none
theorem agg_of {w : World} {I : Nat → Prop} {g : Gh} {ob : Nat → Option Ob} {cs : List C} {b f : Nat} (h : ∀ (j : Nat) (c : C), cs[j]? = some c → ∃ v, w.cell? ⟨b, f + j, none⟩ = some v ∧ v.oneCell' = true ∧ CR w I g ob c v) :
    ∀ n, n ≤ cs.length → ∃ us : List Value, us.length = n ∧ ∀ j u, us[j]? = some u → w.cell? ⟨b, f + j, none⟩ = some u ∧ u.oneCell' = true ∧ ∃ c, cs[j]? = some c ∧ CR w I g ob c u := by
  intro n
  induction n with
  | zero => exact fun _ => ⟨[], rfl, fun j u h => by simp at h⟩
  | succ n ih =>
    intro hn
    obtain ⟨us, hul, hus⟩ := ih (by omega)
    obtain ⟨v, h1, h2, h3⟩ := h n cs[n] (List.getElem?_eq_getElem (by omega))
    refine ⟨us ++ [v], by simp [hul], fun j u hu => ?_⟩
    rw [List.getElem?_append] at hu
    split at hu
    · exact hus j u hu
    · have hj0 : j - us.length = 0 := by
        cases hq : j - us.length with
        | zero => rfl
        | succ q => rw [hq] at hu; simp at hu
      have hj : j = n := by omega
      subst hj
      rw [hul, Nat.sub_self] at hu
      simp at hu
      subst hu
      exact ⟨h1, h2, _, List.getElem?_eq_getElem (by omega), h3⟩
theorem evLoad_ok [Glob] {o : Oper} {ty : TypeId} {x : Operand} {s : SV} (ho : o.op = .load ty x) (h : evLoad P σ.objs ty (σ.ev x) = some s) : PureOK P σ o True s := by
  intro K w I g tm hi _
  unfold evLoad at h
  split at h
  · rename_i c hx
    simp only [Option.bind_eq_some_iff] at h
    obtain ⟨cs, hcs, h⟩ := h
    obtain ⟨b, f, hu, hl⟩ := ldCells_ok hi (hi.ev_one hx).1 hcs
    split at h
    · rename_i hag
      split at h
      · rename_i c0 r
        cases h
        obtain ⟨v, h1, h2, h3⟩ := hl 0 c0 rfl
        rw [Nat.add_zero] at h1
        exact ⟨v, by simp [execOp, ho, hu, Instr.loadAt, Instr.sureAddr, run_loadVar_one hag h1], shape_one h2 h3⟩
      · cases h
    · rename_i n hag hsz
      cases hn : Nat.ble n cs.length with
      | false => rw [hn] at h; cases h
      | true =>
        rw [hn] at h
        cases h
        obtain ⟨us, hul, hus⟩ := agg_of hl n (Nat.le_of_ble_eq_true hn)
        have hlen : (cs.take n).length = n := by rw [List.length_take]; have := Nat.le_of_ble_eq_true hn; omega
        refine ⟨.agg us.toArray, by simp [execOp, ho, hu, Instr.loadAt, Instr.sureAddr, run_loadVar_agg hag hsz hul fun j u h => (hus j u h).1], ⟨us, rfl, by rw [hul, hlen], fun v hv => ?_⟩, fun i c hc => ?_⟩
        · obtain ⟨j, hj⟩ := List.mem_iff_getElem?.1 hv
          exact (hus j v hj).2.1
        · simp only [SV.cells] at hc
          rw [List.getElem?_take] at hc
          split at hc
          · rename_i hi'
            have hiu : i < us.length := by omega
            obtain ⟨_, _, c', h1, h2⟩ := hus i us[i] (List.getElem?_eq_getElem hiu)
            rw [hc] at h1
            cases h1
            exact ⟨us[i], by simp [valCells, Value.cells, hiu], h2⟩
          · cases hc
    · cases h
  · cases h

/-! ### Addresses -/
def addOff (ob : Nat → Option Ob) (off : Nat) : C → Option C
  | .pd t x j => some (.pd t x (j + off))
  | .rf o (.pb c) => match ob o with
    | some (.cells _) => some (.rf o (.pb (c + off)))
    | _ => none
  | .rf o (.pe i j) => match ob o with
    | some (.rows ..) => some (.rf o (.pe i (j + off)))
    | some (.fz ..) => some (.rf o (.pe i (j + off)))
    | _ => none
  | .rf o (.vp t x j) => match ob o with
    | some (.rows _ _ true _) => some (.rf o (.vp t x (j + off)))
    | some (.fz _ true _) => some (.rf o (.vp t x (j + off)))
    | _ => none
  | _ => none
theorem addOff_ok {w : World} {I : Nat → Prop} {g : Gh} {ob : Nat → Option Ob} {off : Nat} {c c' : C} {u : Value} (h : CR w I g ob c u) (hc : addOff ob off c = some c') : ∃ b f, u = .pointer (some ⟨b, f, none⟩) ∧ CR w I g ob c' (.pointer (some ⟨b, f + off, none⟩)) := by
  unfold addOff at hc
  split at hc
  · cases hc
    obtain ⟨b, o, us, rfl, hca, hr⟩ := h
    exact ⟨b, _, rfl, b, o, us, by rw [Nat.add_assoc], hca, hr⟩
  · rename_i o c0
    have h' : seeO w I (g.addr o) (g.base o) (g.L o) (ob o) (.pb c0) u := h
    split at hc
    · rename_i cs hq
      cases hc
      rw [hq] at h'
      refine ⟨_, _, h', ?_⟩
      show seeO _ _ _ _ _ (ob o) _ _
      rw [hq]
      show _ = _
      rw [Nat.add_assoc]
    · cases hc
  · rename_i o i j
    have h' : seeO w I (g.addr o) (g.base o) (g.L o) (ob o) (.pe i j) u := h
    split at hc
    · rename_i hq
      cases hc
      rw [hq] at h'
      obtain ⟨b, f1, cap, h1, h2, rfl⟩ := h'
      refine ⟨_, _, rfl, ?_⟩
      show seeO _ _ _ _ _ (ob o) _ _
      rw [hq]
      exact ⟨b, f1, cap, h1, h2, by rw [Nat.add_assoc]⟩
    · rename_i hq
      cases hc
      rw [hq] at h'
      obtain ⟨b, f1, cap, h1, h2, rfl⟩ := h'
      refine ⟨_, _, rfl, ?_⟩
      show seeO _ _ _ _ _ (ob o) _ _
      rw [hq]
      exact ⟨b, f1, cap, h1, h2, by rw [Nat.add_assoc]⟩
    · cases hc
  · rename_i o t x j
    have h' : seeO w I (g.addr o) (g.base o) (g.L o) (ob o) (.vp t x j) u := h
    split at hc
    · rename_i hq
      cases hc
      rw [hq] at h'
      obtain ⟨b, f, us, rfl, hca, hr⟩ := h'
      refine ⟨_, _, rfl, ?_⟩
      show seeO _ _ _ _ _ (ob o) _ _
      rw [hq]
      exact ⟨b, f, us, by rw [Nat.add_assoc], hca, hr⟩
    · rename_i hq
      cases hc
      rw [hq] at h'
      obtain ⟨b, f, us, rfl, hca, hr⟩ := h'
      refine ⟨_, _, rfl, ?_⟩
      show seeO _ _ _ _ _ (ob o) _ _
      rw [hq]
      exact ⟨b, f, us, by rw [Nat.add_assoc], hca, hr⟩
    · cases hc
  · cases hc
def evFAddr (P : Program) (ob : Nat → Option Ob) (ty : TypeId) (f : Nat) : SV → Option SV
  | .one c => (fieldOff P ty f).bind fun off => (addOff ob off c).map SV.one
  | _ => none
theorem evFAddr_ok [Glob] {o : Oper} {ty : TypeId} {x : Operand} {f : Nat} {s : SV} (ho : o.op = .fieldAddr ty x f) (h : evFAddr P σ.objs ty f (σ.ev x) = some s) : PureOK P σ o True s := by
  intro K w I g tm hi _
  unfold evFAddr at h
  split at h
  · rename_i c hx
    simp only [Option.bind_eq_some_iff, Option.map_eq_some_iff] at h
    obtain ⟨off, hoff, c', hc', rfl⟩ := h
    obtain ⟨b, f', hu, hr⟩ := addOff_ok (hi.ev_one hx).1 hc'
    exact ⟨_, by simp [execOp, ho, hu, run_fieldAt hoff], shape_one rfl hr⟩
  · cases h
/-- A pointer that is not nil. -/
def evNil (ob : Nat → Option Ob) : SV → Option SV
  | .one c => (addOff ob 0 c).map fun _ => .one c
  | _ => none
theorem evNil_ok [Glob] {o : Oper} {x : Operand} {s : SV} (ho : o.op = .nilCheck x) (h : evNil σ.objs (σ.ev x) = some s) : PureOK P σ o True s := by
  intro K w I g tm hi _
  unfold evNil at h
  split at h
  · rename_i c hx
    simp only [Option.map_eq_some_iff] at h
    obtain ⟨c', hc', rfl⟩ := h
    obtain ⟨b, f', hu, hr⟩ := addOff_ok (hi.ev_one hx).1 hc'
    have := (hi.ev_one hx).1
    rw [hu] at this
    exact ⟨_, by simp [execOp, ho, hu], shape_one rfl this⟩
  · cases h

end Go.LX

/- Elements, parts, fields, literals of structs: the rest of what only computes. -/
set_option linter.unusedVariables false
set_option linter.unusedSimpArgs false
namespace Go.LX

variable {P : Program} {σ : St}

/-! ### Elements -/
/-- A view's data, off the object's own cells. -/
theorem CR.slV [Glob] {K : Ctx} {w : World} {I : Nat → Prop} {g : Gh} {tm : Array Value} (hi : Inv K w I g σ tm) {o : Nat} {r : Rf} {u : Value} {e : Ty} {ys : List e.T} {e0 : TypeId} {t : Ty} {xs : List t.T} (hq : σ.objs o = some (.rows e0 t true xs)) (h : CR w I g σ.objs (.rf o r) u)
    (hr : (∃ t x, r = .vw t x) ∨ ∃ i j, r = .ns i j) (hc : LX.slC σ.objs (.rf o r) = some ⟨e, ys⟩) : RT w (fun b => I b ∨ (b ∈ g.L o ∧ (g.base o).ownBlock ≠ some b)) (.sl e) ys [u] := by
  have h' : seeO w I (g.addr o) (g.base o) (g.L o) (σ.objs o) r u := h
  rw [hq] at h'
  rcases hr with ⟨t', x, rfl⟩ | ⟨i, j, rfl⟩
  · cases t' with
    | sl e' =>
      simp only [LX.slC, hq, Option.some.injEq, Sigma.mk.injEq] at hc
      obtain ⟨rfl, hc⟩ := hc
      cases hc
      exact h'
    | _ => simp [LX.slC] at hc
  · obtain ⟨_, b, f1, cap, h1, h2, h3⟩ := h'
    simp only [LX.slC, hq] at hc
    have hob := hi.rows hq
    rw [h1] at hob
    obtain ⟨us, L0, hL0, hrow, hcell⟩ := own_row hob h2
    have hx : xs.getD i (dflt t) = xs[i] := by simp [List.getD_eq_getElem?_getD, h2]
    rw [hx] at hc
    split at hc
    · rename_i e' ys' hce
      cases hc
      have hrt := OT.rt hrow
      obtain ⟨v, hv, hrv⟩ := RT.cell hrt hce
      have := (hcell j v hv).1
      rw [h3] at this
      cases this
      refine hrv.sub fun x hx => .inr ⟨(hL0 x hx).1, ?_⟩
      rw [h1]
      have := (hL0 x hx).2 (hi.nod o)
      simpa [Value.ownBlock] using Ne.symm this
    · cases hc

def szOK (n : Nat) (t : Ty) (r : Prop × C) : Option (Prop × C) := bif Nat.beq n t.w then some r else none
def ixR (o : Nat) (n : Nat) (i : Int) : Ob → Option (Σ e : Ty, List e.T) → Rf → Option (Prop × C)
  | .rows _ t _ xs, _, .ar => szOK n t (0 ≤ i ∧ i < (xs.length : Int), .rf o (.pe i.toNat 0))
  | .rows _ t _ _, _, .sb off len => szOK n t (0 ≤ i ∧ i < (len : Int), .rf o (.pe (off + i.toNat) 0))
  | .rows _ _ true _, some ⟨t, xs⟩, .vw _ _ => szOK n t (0 ≤ i ∧ i < (xs.length : Int), .rf o (.vp t (xs.getD i.toNat (dflt t)) 0))
  | .rows _ _ true _, some ⟨t, xs⟩, .ns _ _ => szOK n t (0 ≤ i ∧ i < (xs.length : Int), .rf o (.vp t (xs.getD i.toNat (dflt t)) 0))
  | .fz _ _ _, some ⟨t, xs⟩, _ => szOK n t (0 ≤ i ∧ i < (xs.length : Int), .pd t (xs.getD i.toNat (dflt t)) 0)
  | .cells _, _, .as wd m _ => bif Nat.beq n wd then some (0 ≤ i ∧ i < (m : Int), .rf o (.pb (i.toNat * wd))) else none
  | _, _, _ => none
def ixC (ob : Nat → Option Ob) (n : Nat) (i : Int) : C → Option (Prop × C)
  | .d (.sl t) xs => szOK n t (0 ≤ i ∧ i < (xs.length : Int), .pd t (xs.getD i.toNat (dflt t)) 0)
  | .rf o r => match ob o with
    | some q => ixR o n i q (slC ob (.rf o r)) r
    | none => none
  | _ => none
theorem szOK_ok {n : Nat} {t : Ty} {r r' : Prop × C} (h : szOK n t r = some r') : n = t.w ∧ r' = r := by
  unfold szOK at h
  cases hb : Nat.beq n t.w with
  | false => rw [hb] at h; cases h
  | true => rw [hb] at h; cases h; exact ⟨Nat.eq_of_beq_eq_true hb, rfl⟩
theorem getD_at {α : Type} {xs : List α} {i : Nat} (h : i < xs.length) (d : α) : xs.getD i d = xs[i] := by simp [List.getD_eq_getElem?_getD, h]
theorem RT.at {w : World} {S : Nat → Prop} {t : Ty} {xs : List t.T} {u : Value} {i : Nat} (h : RT w S (.sl t) xs [u]) (hi : i < xs.length) (d : t.T) : ∃ b f len cap, u = .slice (some ⟨b, f, none⟩) len cap ∧ len = xs.length ∧ PD w S t (xs.getD i d) 0 (.pointer (some ⟨b, f + i * t.w, none⟩)) := by
  obtain ⟨A, cap, hu, h1, h2, h3⟩ := h
  obtain ⟨b, o, vs, rfl, hc, hr⟩ := h3 i _ (List.getElem?_eq_getElem hi)
  rw [getD_at hi]
  simp at hu
  exact ⟨b, o, _, cap, hu, rfl, b, o + i * t.w, vs, rfl, hc, hr⟩
theorem own_base {w : World} {I : Nat → Prop} {dp : Bool} {e : TypeId} {t : Ty} {xs : List t.T} {u : Value} {L : List Nat} (h : OA w I dp e t xs u L) (hn : 0 < xs.length) : ∃ b f cap, u = .slice (some ⟨b, f, none⟩) xs.length cap := by
  obtain ⟨vs, L', ho, _, _⟩ := h
  rcases ho.2 with ⟨_, h0⟩ | ⟨b, f, cap, cur, hu, _⟩
  · omega
  · exact ⟨b, f, cap, hu⟩
theorem ixC_ok [Glob] {K : Ctx} {w : World} {I : Nat → Prop} {g : Gh} {tm : Array Value} (hi : Inv K w I g σ tm) {n : Nat} {i : Int} {c c' : C} {u : Value} {p : Prop} (h : CR w I g σ.objs c u) (hc : ixC σ.objs n i c = some (p, c')) (hp : p) :
    ∃ b f len cap, u = .slice (some ⟨b, f, none⟩) len cap ∧ 0 ≤ i ∧ i < (len : Int) ∧ CR w I g σ.objs c' (.pointer (some ⟨b, f + i.toNat * n, none⟩)) := by
  unfold ixC at hc
  split at hc
  · rename_i t xs
    obtain ⟨rfl, e⟩ := szOK_ok hc
    cases e
    obtain ⟨b, f, len, cap, rfl, rfl, h3⟩ := RT.at (t := t) h (i := i.toNat) (by omega) (dflt t)
    exact ⟨b, f, _, cap, rfl, hp.1, hp.2, h3⟩
  · rename_i o r
    split at hc
    · rename_i q hq
      have h' : seeO w I (g.addr o) (g.base o) (g.L o) (σ.objs o) r u := h
      rw [hq] at h'
      have see' : ∀ {r' : Rf} {v : Value}, see w I (g.addr o) (g.base o) (g.L o) q r' v → CR w I g σ.objs (.rf o r') v := fun hv => by
        show seeO _ _ _ _ _ (σ.objs o) _ _
        rw [hq]; exact hv
      generalize hsl : LX.slC σ.objs (.rf o r) = so at hc
      cases q with
      | dead => simp [ixR] at hc
      | cells cs =>
        cases r with
        | as wd m e =>
          simp only [ixR] at hc
          cases hb : Nat.beq n wd with
          | false => rw [hb] at hc; cases hc
          | true =>
            rw [hb] at hc
            obtain rfl := Nat.eq_of_beq_eq_true hb
            cases hc
            obtain ⟨rfl, h2, h3⟩ := h'
            exact ⟨_, _, _, _, rfl, hp.1, hp.2, see' rfl⟩
        | _ => simp [ixR] at hc
      | rows e t dp xs =>
        have viewed : ∀ {t1 : Ty} {ys : List t1.T} {d : t1.T}, dp = true → ((∃ t x, r = .vw t x) ∨ ∃ i j, r = .ns i j) → so = some ⟨t1, ys⟩ → 0 ≤ i ∧ i < (ys.length : Int) →
            ∃ b f len cap, u = .slice (some ⟨b, f, none⟩) len cap ∧ 0 ≤ i ∧ i < (len : Int) ∧ CR w I g σ.objs (.rf o (.vp t1 (ys.getD i.toNat d) 0)) (.pointer (some ⟨b, f + i.toNat * t1.w, none⟩)) := by
          intro t1 ys d hdp hr hso hp
          subst hdp
          rw [hso] at hsl
          obtain ⟨b, f, len, cap, rfl, rfl, h3⟩ := (CR.slV hi hq h hr hsl).at (i := i.toNat) (by omega) d
          exact ⟨b, f, _, cap, rfl, hp.1, hp.2, see' h3⟩
        cases r with
        | ar =>
          simp only [ixR] at hc
          obtain ⟨rfl, e⟩ := szOK_ok hc
          cases e
          have hu : u = g.base o := h'
          subst hu
          obtain ⟨b, f, cap, hb⟩ := own_base (hi.rows hq) (by omega)
          exact ⟨b, f, _, cap, hb, hp.1, hp.2, see' ⟨b, f, cap, hb, by omega, by simp⟩⟩
        | sb off len =>
          simp only [ixR] at hc
          obtain ⟨rfl, e⟩ := szOK_ok hc
          cases e
          obtain ⟨A, cap, B, c0, e1, rfl, e2, e3, e4, e5⟩ := h'
          obtain ⟨b, f, rfl, rfl⟩ := e5 (by omega)
          refine ⟨b, f + off * t.w, _, c0, rfl, hp.1, hp.2, see' ⟨b, f, cap, e1, by omega, ?_⟩⟩
          rw [Nat.add_zero, Nat.add_mul, Nat.add_assoc]
        | vw t1 x1 =>
          cases dp with
          | false => simp [ixR] at hc
          | true =>
            cases hso : so with
            | none => rw [hso] at hc; simp [ixR] at hc
            | some y =>
              obtain ⟨t2, ys⟩ := y
              rw [hso] at hc
              simp only [ixR] at hc
              obtain ⟨rfl, e⟩ := szOK_ok hc
              cases e
              exact viewed rfl (.inl ⟨_, _, rfl⟩) hso hp
        | ns i1 j1 =>
          cases dp with
          | false => simp [ixR] at hc
          | true =>
            cases hso : so with
            | none => rw [hso] at hc; simp [ixR] at hc
            | some y =>
              obtain ⟨t2, ys⟩ := y
              rw [hso] at hc
              simp only [ixR] at hc
              obtain ⟨rfl, e⟩ := szOK_ok hc
              cases e
              exact viewed rfl (.inr ⟨_, _, rfl⟩) hso hp
        | _ => simp [ixR] at hc
      | fz t dp xs =>
        cases hso : so with
        | none => rw [hso] at hc; simp [ixR] at hc
        | some y =>
          obtain ⟨t2, ys⟩ := y
          rw [hso] at hc hsl
          simp only [ixR] at hc
          obtain ⟨rfl, e⟩ := szOK_ok hc
          cases e
          have hL : g.L o = [] := by have hob := hi.obj o; unfold ObR at hob; rw [hq] at hob; exact hob.1
          have hrt := CR.slC hi h hsl
          simp only [C.oid, hL, List.not_mem_nil, or_false] at hrt
          obtain ⟨b, f, len, cap, rfl, rfl, h3⟩ := hrt.at (i := i.toNat) (by omega) (dflt t2)
          exact ⟨b, f, _, cap, rfl, hp.1, hp.2, h3⟩
    · cases hc
  · cases hc
/-- An array's length and elements. -/
def arrB (P : Program) (ty : TypeId) : Option (Nat × TypeId) := match P.underlying ty with
  | some (.array n e) => some (n, e)
  | _ => none
def ixA (P : Program) (ty : TypeId) (t : Ty) (xs : List t.T) (i : Int) : Option (Prop × SV) :=
  (arrB P ty).bind fun ne => (sizeB P ne.2).bind fun n => bif Nat.beq n t.w && Nat.beq ne.1 xs.length then some (0 ≤ i ∧ i < (xs.length : Int), .one (.pd t (xs.getD i.toNat (dflt t)) 0)) else none
def evIxA (P : Program) (ob : Nat → Option Ob) (ty : TypeId) : SV → SV → Option (Prop × SV)
  | .one (.pa t xs), .one (.d (.i _) i) => ixA P ty t xs i
  | .one (.pa t xs), .one (.d .u8 i) => ixA P ty t xs (i.toNat : Int)
  | .one c, .one (.d (.i _) i) => (elemB P ty).bind fun e => (sizeB P e).bind fun n => (ixC ob n i c).map fun x => (x.1, .one x.2)
  | .one c, .one (.d .u8 i) => (elemB P ty).bind fun e => (sizeB P e).bind fun n => (ixC ob n (i.toNat : Int) c).map fun x => (x.1, .one x.2)
  | _, _ => none
theorem evIxA_ok [Glob] {o : Oper} {ty : TypeId} {x y : Operand} {p : Prop} {s : SV} (ho : o.op = .indexAddr ty x y) (h : evIxA P σ.objs ty (σ.ev x) (σ.ev y) = some (p, s)) : PureOK P σ o p s := by
  intro K w I g tm hi hp
  have arr : ∀ {t : Ty} {xs : List t.T} {k : IntKind} {i : Int}, σ.ev x = .one (.pa t xs) → Act.eval ⟨tm, []⟩ y = .int k i → ixA P ty t xs i = some (p, s) → ∃ u, (execOp (Act.eval ⟨tm, []⟩) o).run P w = .ok (.value u) w ∧ ShapeOK s u ∧ ∀ (i : Nat) (c : C), s.cells[i]? = some c → ∃ v, (valCells u)[i]? = some v ∧ CR w I g σ.objs c v := by
    intro t xs k i hx hy h
    unfold ixA at h
    simp only [Option.bind_eq_some_iff] at h
    obtain ⟨⟨m, e⟩, hm, n, hn, h⟩ := h
    cases hb : (Nat.beq n t.w && Nat.beq m xs.length) with
    | false => rw [hb] at h; cases h
    | true =>
      rw [hb] at h
      simp only [cond_true, Option.some.injEq, Prod.mk.injEq] at h
      obtain ⟨rfl, rfl⟩ := h
      obtain ⟨b1, b2⟩ := Bool.and_eq_true_iff.1 hb
      have b1 := Nat.eq_of_beq_eq_true b1
      have b2 := Nat.eq_of_beq_eq_true b2
      subst b1 b2
      obtain ⟨b, f, hu, hr⟩ : PA w I t xs (Act.eval ⟨tm, []⟩ x) := (hi.ev_one hx).1
      have hty : P.underlying ty = some (.array xs.length e) := by
        unfold arrB at hm
        split at hm
        · rename_i h; cases hm; exact h
        · cases hm
      have hlt : i.toNat < xs.length := by omega
      obtain ⟨vs, hc, hrt⟩ := hr i.toNat _ (List.getElem?_eq_getElem hlt)
      have hrun : (Instr.indexAt ty (.pointer (some ⟨b, f, none⟩)) (.int k i)).run P w = .ok (.pointer (some ⟨b, f + i.toNat * t.w, none⟩)) w := by
        simp [Instr.indexAt, asIntOf, run_underlying hty, Instr.sureAddr, hp.1, hp.2, run_sizeB hn, addr_add]
      refine ⟨.pointer (some ⟨b, f + i.toNat * t.w, none⟩), by simp [execOp, ho, hu, hy, hrun], shape_one rfl ?_⟩
      rw [getD_at hlt]
      exact ⟨b, f + i.toNat * t.w, vs, rfl, hc, hrt⟩
  have fin : ∀ {c : C} {k : IntKind} {i : Int}, σ.ev x = .one c → Act.eval ⟨tm, []⟩ y = .int k i → ((elemB P ty).bind fun e => (sizeB P e).bind fun n => (ixC σ.objs n i c).map fun x => (x.1, SV.one x.2)) = some (p, s) → ∃ u, (execOp (Act.eval ⟨tm, []⟩) o).run P w = .ok (.value u) w ∧ ShapeOK s u ∧ ∀ (i : Nat) (c : C), s.cells[i]? = some c → ∃ v, (valCells u)[i]? = some v ∧ CR w I g σ.objs c v := by
    intro c k i hx hy h
    simp only [Option.bind_eq_some_iff, Option.map_eq_some_iff] at h
    obtain ⟨e, he, n, hn, ⟨p', c'⟩, hic, hps⟩ := h
    simp only [Prod.mk.injEq] at hps
    obtain ⟨rfl, rfl⟩ := hps
    obtain ⟨b, f, len, cap, hu, h0, h1, hr⟩ := ixC_ok hi (hi.ev_one hx).1 hic hp
    obtain ⟨m, rfl⟩ := Int.eq_ofNat_of_zero_le h0
    have := run_indexAt (P := P) (k := k) (b := b) (o := f) (cap := cap) (elemB_ok he) hn (show m < len by omega) w
    exact ⟨_, by simp [execOp, ho, hu, hy, this], shape_one rfl hr⟩
  unfold evIxA at h
  split at h
  · rename_i hx hy; exact arr hx (hi.ev_i hy) h
  · rename_i hx hy; exact arr hx (hi.ev_u8 hy) h
  · rename_i hx hy; exact fin hx (hi.ev_i hy) h
  · rename_i hx hy; exact fin hx (hi.ev_u8 hy) h
  · cases h
/-- A byte of a string. -/
def evIx (P : Program) (ty : TypeId) : SV → SV → Option (Prop × SV)
  | .one (.d .st s), .one (.d (.i _) i) => bif isStrB P ty then some (0 ≤ i ∧ i < (s.length : Int), .one (.d .u8 (s.getD i.toNat 0))) else none
  | .one (.d .st s), .one (.d .u8 i) => bif isStrB P ty then some ((i.toNat : Int) < (s.length : Int), .one (.d .u8 (s.getD i.toNat 0))) else none
  | _, _ => none
theorem run_ixStr {ty : TypeId} (hs : isStrB P ty = true) {s : List UInt8} {k : IntKind} {i : Nat} (h : i < s.length) (w : World) : (Instr.index ty (strV s) (.int k i)).run P w = .ok (.int .u8 ((s.getD i 0).toNat : Int)) w := by
  have e : (⟨s.toArray⟩ : ByteArray)[i]? = some (s.getD i 0) := by
    rw [getD_at h]
    have : i < (⟨s.toArray⟩ : ByteArray).size := by simpa [ByteArray.size] using h
    rw [getElem?_pos (⟨s.toArray⟩ : ByteArray) i this]
    rfl
  simp [Instr.index, asIntOf, run_underlying (isStrB_ok hs), strV, e]
theorem evIx_ok [Glob] {o : Oper} {ty : TypeId} {x y : Operand} {p : Prop} {s : SV} (ho : o.op = .index ty x y) (h : evIx P ty (σ.ev x) (σ.ev y) = some (p, s)) : PureOK P σ o p s := by
  unfold evIx at h
  split at h
  · rename_i s' k i hx hy
    cases hb : isStrB P ty with
    | false => rw [hb] at h; cases h
    | true =>
      rw [hb] at h
      simp only [cond_true, Option.some.injEq, Prod.mk.injEq] at h
      obtain ⟨rfl, rfl⟩ := h
      refine .u8 fun K w I g tm hi hp => ?_
      obtain ⟨h0, h1⟩ := hp
      obtain ⟨m, rfl⟩ := Int.eq_ofNat_of_zero_le h0
      have := run_ixStr (P := P) (k := k) hb (show m < List.length s' from Int.ofNat_lt.1 h1) w
      simp [execOp, ho, hi.ev_st hx, hi.ev_i hy, this]
  · rename_i s' i hx hy
    cases hb : isStrB P ty with
    | false => rw [hb] at h; cases h
    | true =>
      rw [hb] at h
      simp only [cond_true, Option.some.injEq, Prod.mk.injEq] at h
      obtain ⟨rfl, rfl⟩ := h
      refine .u8 fun K w I g tm hi hp => ?_
      have := run_ixStr (P := P) (k := .u8) hb (show UInt8.toNat i < List.length s' by omega) w
      simp [execOp, ho, hi.ev_st hx, hi.ev_u8 hy, this]
  · cases h
end Go.LX

