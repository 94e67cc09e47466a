/- Loads, addresses, parts: operations that read memory. -/
import Derived.Test.YtojaiockbpcilaaLxNum
set_option linter.unusedVariables false
set_option linter.unusedSimpArgs false
namespace Go.LX

variable {P : Program} {σ : St}

/-! ### Lengths -/
def isStrB (P : Program) (ty : TypeId) : Bool := match P.underlying ty with | some .string => true | _ => false
def elemB (P : Program) (ty : TypeId) : Option TypeId := match P.underlying ty with | some (.slice e) => some e | _ => none
theorem isStrB_ok {ty : TypeId} (h : isStrB P ty = true) : P.underlying ty = some .string := by
  unfold isStrB at h; split at h
  · assumption
  · cases h
theorem elemB_ok {ty e : TypeId} (h : elemB P ty = some e) : P.underlying ty = some (.slice e) := by
  unfold elemB at h; split at h
  · cases h; assumption
  · cases h
def isSlB (P : Program) (ty : TypeId) : Bool := (elemB P ty).isSome
/-- How long a slice is. -/
def lenC (ob : Nat → Option Ob) : C → Option Int
  | .nl => some 0
  | .z => some 0
  | .rf o (.as wd n e) => match ob o with
    | some (.cells _) => some n
    | _ => none
  | .d (.sl _) xs => some xs.length
  | c => (slC ob c).map fun x => (x.2.length : Int)
def evLen (P : Program) (ob : Nat → Option Ob) (ty : TypeId) : SV → Option SV
  | .one (.d .st s) => bif isStrB P ty then some (.one (.d (.i .i64) (s.length : Int))) else none
  | .one c => bif isSlB P ty then (lenC ob c).map fun n => .one (.d (.i .i64) n) else none
  | _ => none
theorem lenC_ok [Glob] {K : Ctx} {w : World} {I : Nat → Prop} {g : Gh} {tm : Array Value} (hi : Inv K w I g σ tm) {c : C} {u : Value} {n : Int} (h : CR w I g σ.objs c u) (hc : lenC σ.objs c = some n) : ∃ A m cap, u = .slice A m cap ∧ (m : Int) = n := by
  have sl : ∀ {x : Σ e : Ty, List e.T}, slC σ.objs c = some x → (x.2.length : Int) = n → ∃ A m cap, u = .slice A m cap ∧ (m : Int) = n := by
    intro x hx hn
    obtain ⟨A, cap, hu, _⟩ := h.slC hi (e := x.1) (xs := x.2) hx
    simp only [List.cons.injEq, and_true] at hu
    exact ⟨A, _, cap, hu, hn⟩
  unfold lenC at hc
  split at hc
  · cases hc; exact ⟨none, 0, 0, h, rfl⟩
  · cases hc; obtain ⟨A, rfl⟩ := h; exact ⟨A, 0, 0, rfl, rfl⟩
  · rename_i o wd n' e
    have h' : seeO w I (g.addr o) (g.base o) (g.L o) (σ.objs o) (.as wd n' e) u := h
    split at hc
    · rename_i hq; rw [hq] at h'; cases hc; exact ⟨_, n', n', h'.1, rfl⟩
    · cases hc
  · rename_i e xs
    simp only [Option.some.injEq] at hc
    exact sl (x := ⟨e, xs⟩) rfl hc
  · simp only [Option.map_eq_some_iff] at hc
    obtain ⟨x, hx, hn⟩ := hc
    exact sl hx hn
theorem evLen_ok [Glob] {o : Oper} {ty : TypeId} {x : Operand} {s : SV} (ho : o.op = .call { callee := .builtin .len, args := #[x], argTypes := #[ty] }) (h : evLen P σ.objs ty (σ.ev x) = some s) : PureOK P σ o True s := by
  unfold evLen at h
  split at h
  · rename_i s' hx
    cases hb : isStrB P ty with
    | false => rw [hb] at h; cases h
    | true =>
      rw [hb] at h
      simp only [cond_true, Option.some.injEq] at h
      subst h
      exact .i fun K w I g tm hi _ => by
        have e : (⟨s'.toArray⟩ : ByteArray).size = s'.length := by simp [ByteArray.size]
        simp [execOp, ho, resolve, invoke, builtin, Builtin.len_, hi.ev_st hx, run_underlying (isStrB_ok hb), strV, goInt]
        exact_mod_cast e
  · rename_i c _ hx
    cases hb : isSlB P ty with
    | false => rw [hb] at h; cases h
    | true =>
      rw [hb] at h
      simp only [cond_true, Option.map_eq_some_iff] at h
      obtain ⟨n, hn, rfl⟩ := h
      obtain ⟨e, he⟩ := Option.isSome_iff_exists.1 hb
      refine .i fun K w I g tm hi _ => ?_
      obtain ⟨A, m, cap, hu, hm⟩ := lenC_ok hi (hi.ev_one hx).1 hn
      simp [execOp, ho, resolve, invoke, builtin, Builtin.len_, hu, run_underlying (elemB_ok he), goInt, hm]
  · cases h

/-! ### What a pointer points to -/
def ldCells (ob : Nat → Option Ob) : C → Option (List C)
  | .pd t x j => some ((cellsOf t x).drop j)
  | .rf o (.pb c) => match ob o with
    | some (.cells cs) => some (cs.drop c)
    | _ => none
  | .rf o (.pe i j) => match ob o with
    | some (.rows _ t dp xs) => some ((bif dp then cellsN o i t (xs.getD i (dflt t)) 0 else cellsOf t (xs.getD i (dflt t))).drop j)
    | some (.fz t _ xs) => some ((cellsOf t (xs.getD i (dflt t))).drop j)
    | _ => none
  | .rf o (.vp t x j) => match ob o with
    | some (.rows _ _ true _) => some ((cellsV o t x).drop j)
    | some (.fz _ true _) => some ((cellsOf t x).drop j)
    | _ => none
  | _ => none
/-- Cells told of and as they lie. -/
def Lie (w : World) (I : Nat → Prop) (g : Gh) (ob : Nat → Option Ob) (cs : List C) (u : Value) : Prop :=
  ∃ b f, u = .pointer (some ⟨b, f, none⟩) ∧ ∀ (j : Nat) (c : C), cs[j]? = some c → ∃ v, w.cell? ⟨b, f + j, none⟩ = some v ∧ v.oneCell' = true ∧ CR w I g ob c v
theorem Lie.drop {w : World} {I : Nat → Prop} {g : Gh} {ob : Nat → Option Ob} {cs : List C} {b f j : Nat} (h : Lie w I g ob cs (.pointer (some ⟨b, f, none⟩))) : Lie w I g ob (cs.drop j) (.pointer (some ⟨b, f + j, none⟩)) := by
  obtain ⟨b', f', e, h⟩ := h
  cases e
  refine ⟨b, f + j, rfl, fun k c hk => ?_⟩
  rw [List.getElem?_drop] at hk
  rw [Nat.add_assoc]
  exact h _ c hk
theorem Lie.of {w : World} {I : Nat → Prop} {g : Gh} {ob : Nat → Option Ob} {cs : List C} {b f : Nat} {us : List Value} (h1 : ∀ (j : Nat) (c : C), cs[j]? = some c → ∃ v, us[j]? = some v ∧ CR w I g ob c v) (h2 : ∀ j u, us[j]? = some u → w.cell? ⟨b, f + j, none⟩ = some u) (h3 : ∀ u ∈ us, u.oneCell' = true) : Lie w I g ob cs (.pointer (some ⟨b, f, none⟩)) :=
  ⟨b, f, rfl, fun j c hj => by
    obtain ⟨v, hv, hc⟩ := h1 j c hj
    exact ⟨v, h2 j v hv, h3 v (List.mem_of_getElem? hv), hc⟩⟩
theorem OT.one {w : World} : ∀ {t : Ty} {x : t.T} {us : List Value} {L : List Nat}, OT w t x us L → ∀ u ∈ us, u.oneCell' = true := fun h => h.rt.one
theorem RR.one {w : World} {I : Nat → Prop} {dp : Bool} {t : Ty} {x : t.T} {us : List Value} {L : List Nat} (h : RR w I dp t x us L) : ∀ u ∈ us, u.oneCell' = true := h.rt.one
/-- Row i of an owned slice. -/
theorem own_row {w : World} {I : Nat → Prop} {dp : Bool} {e : TypeId} {t : Ty} {xs : List t.T} {b f n cap : Nat} {L : List Nat} (h : OA w I dp e t xs (.slice (some ⟨b, f, none⟩) n cap) L) {i : Nat} (hi : i < xs.length) :
    ∃ us L0, (∀ x ∈ L0, x ∈ L ∧ (L.Nodup → x ≠ b)) ∧ RR w I dp t xs[i] us L0 ∧ ∀ j u, us[j]? = some u → w.cell? ⟨b, f + i * t.w + j, none⟩ = some u ∧ w.frozen? ⟨b, f + i * t.w + j, none⟩ = false := by
  obtain ⟨vs, L', ho, hr, rfl⟩ := h
  obtain ⟨u1, us, u2, L1, L0, L2, rfl, rfl, e3, e4, _, h2, _⟩ := hr.at (fun _ _ _ h => h.len) (List.getElem?_eq_getElem hi)
  refine ⟨us, L0, fun x hx => ⟨by simp [hx], fun hn hb => ?_⟩, h2, fun j u hu => ?_⟩
  · subst hb
    simp [Value.ownBlock, hx] at hn
  · have hjl := (List.getElem?_eq_some_iff.1 hu).1
    refine ⟨?_, ?_⟩
    · have hcell := ho.cells (i * t.w + j) u (by
        rw [List.append_assoc, List.getElem?_append_right (by omega), e3, Nat.add_sub_cancel_left, List.getElem?_append_left hjl]; exact hu)
      rwa [← Nat.add_assoc] at hcell
    · exact ho.frozenAt _
theorem Inv.rows [Glob] {K : Ctx} {w : World} {I : Nat → Prop} {g : Gh} {tm : Array Value} (hi : Inv K w I g σ tm) {o : Nat} {e : TypeId} {t : Ty} {dp : Bool} {xs : List t.T} (h : σ.objs o = some (.rows e t dp xs)) : OA w I dp e t xs (g.base o) (g.L o) := by
  have hob := hi.obj o; unfold ObR at hob; rw [h] at hob; exact hob
theorem Inv.fz [Glob] {K : Ctx} {w : World} {I : Nat → Prop} {g : Gh} {tm : Array Value} (hi : Inv K w I g σ tm) {o : Nat} {t : Ty} {dp : Bool} {xs : List t.T} (h : σ.objs o = some (.fz t dp xs)) : RT w I (.sl t) xs [g.base o] := by
  have hob := hi.obj o; unfold ObR at hob; rw [h] at hob; exact hob.2
theorem Inv.cells [Glob] {K : Ctx} {w : World} {I : Nat → Prop} {g : Gh} {tm : Array Value} (hi : Inv K w I g σ tm) {o : Nat} {cs : List C} (h : σ.objs o = some (.cells cs)) : g.L o = [(g.addr o).1] ∧ BoxR K w I g σ.objs o cs := by
  have hob := hi.obj o; unfold ObR at hob; rw [h] at hob; exact hob

theorem ldCells_ok [Glob] {K : Ctx} {w : World} {I : Nat → Prop} {g : Gh} {tm : Array Value} (hi : Inv K w I g σ tm) {c : C} {u : Value} {cs : List C} (h : CR w I g σ.objs c u) (hc : ldCells σ.objs c = some cs) : Lie w I g σ.objs cs u := by
  unfold ldCells at hc
  split at hc
  · rename_i t x j
    cases hc
    obtain ⟨b, o, us, rfl, hca, hr⟩ := h
    exact (Lie.of (RT.cells hr) hca.2 hr.one).drop
  · rename_i o c0
    have h' : seeO w I (g.addr o) (g.base o) (g.L o) (σ.objs o) (.pb c0) u := h
    split at hc
    · rename_i cs0 hq
      rw [hq] at h'
      cases hc
      have hu : u = .pointer (some ⟨(g.addr o).1, (g.addr o).2 + c0, none⟩) := h'
      subst hu
      refine Lie.drop ⟨_, _, rfl, fun j c hj => ?_⟩
      obtain ⟨v, h1, _, h3, _, h5⟩ := (hi.cells hq).2 j c hj
      exact ⟨v, h1, h3, h5⟩
    · cases hc
  · rename_i o i j
    have h' : seeO w I (g.addr o) (g.base o) (g.L o) (σ.objs o) (.pe i j) u := h
    split at hc
    · rename_i e t dp xs hq
      rw [hq] at h'
      cases hc
      obtain ⟨b, f0, cap, hb, hlt, rfl⟩ := h'
      have hob := hi.rows hq
      rw [hb] at hob
      obtain ⟨us, L0, hL0, hr, hcell⟩ := own_row hob hlt
      have hx : xs.getD i (dflt t) = xs[i] := by simp [List.getD_eq_getElem?_getD, hlt]
      rw [hx]
      refine Lie.drop (Lie.of (us := us) ?_ (fun j u hu => (hcell j u hu).1) hr.one)
      cases dp with
      | false => exact RT.cells hr.2
      | true =>
        refine OT.cellsN hr fun j u hu hs => ?_
        rw [hq]
        exact ⟨by rw [Nat.zero_add]; exact hs, b, f0, cap, hb, hlt, by rw [Nat.zero_add]; exact (hcell j u hu).1⟩
    · rename_i t dp xs hq
      rw [hq] at h'
      cases hc
      obtain ⟨b, f0, cap, hb, hlt, rfl⟩ := h'
      have hob := hi.fz hq
      rw [hb] at hob
      obtain ⟨A, c0, e1, _, _, e4⟩ := hob
      obtain ⟨b', o', vs, rfl, hca, hrow⟩ := e4 i _ (List.getElem?_eq_getElem hlt)
      simp at e1
      obtain ⟨⟨rfl, rfl⟩, _⟩ := e1
      have hx : xs.getD i (dflt t) = xs[i] := by simp [List.getD_eq_getElem?_getD, hlt]
      rw [hx]
      exact Lie.drop (Lie.of (RT.cells hrow) (fun j u hu => hca.2 j u hu) hrow.one)
    · cases hc
  · rename_i o t x j
    have h' : seeO w I (g.addr o) (g.base o) (g.L o) (σ.objs o) (.vp t x j) u := h
    split at hc
    · rename_i e t0 xs hq
      rw [hq] at h'
      cases hc
      obtain ⟨b, o', us, rfl, hca, hr⟩ := h'
      exact (Lie.of (RT.cellsV hq hr) hca.2 hr.one).drop
    · rename_i t0 xs hq
      rw [hq] at h'
      cases hc
      obtain ⟨b, o', us, rfl, hca, hr⟩ := h'
      exact (Lie.of (RT.cells hr) hca.2 hr.one).drop
    · cases hc
  · cases hc

def evLoad (P : Program) (ob : Nat → Option Ob) (ty : TypeId) : SV → Option SV
  | .one c => (ldCells ob c).bind fun cs => match aggB P ty, sizeB P ty with
    | some false, _ => match cs with
      | c :: _ => some (.one c)
      | [] => none
    | some true, some n => bif Nat.ble n cs.length then some (.ag (cs.take n)) else none
    | _, _ => none
  | _ => none
theorem agg_of {w : World} {I : Nat → Prop} {g : Gh} {ob : Nat → Option Ob} {cs : List C} {b f : Nat} (h : ∀ (j : Nat) (c : C), cs[j]? = some c → ∃ v, w.cell? ⟨b, f + j, none⟩ = some v ∧ v.oneCell' = true ∧ CR w I g ob c v) :
    ∀ n, n ≤ cs.length → ∃ us : List Value, us.length = n ∧ ∀ j u, us[j]? = some u → w.cell? ⟨b, f + j, none⟩ = some u ∧ u.oneCell' = true ∧ ∃ c, cs[j]? = some c ∧ CR w I g ob c u := by
  intro n
  induction n with
  | zero => exact fun _ => ⟨[], rfl, fun j u h => by simp at h⟩
  | succ n ih =>
    intro hn
    obtain ⟨us, hul, hus⟩ := ih (by omega)
    obtain ⟨v, h1, h2, h3⟩ := h n cs[n] (List.getElem?_eq_getElem (by omega))
    refine ⟨us ++ [v], by simp [hul], fun j u hu => ?_⟩
    rw [List.getElem?_append] at hu
    split at hu
    · exact hus j u hu
    · have hj0 : j - us.length = 0 := by
        cases hq : j - us.length with
        | zero => rfl
        | succ q => rw [hq] at hu; simp at hu
      have hj : j = n := by omega
      subst hj
      rw [hul, Nat.sub_self] at hu
      simp at hu
      subst hu
      exact ⟨h1, h2, _, List.getElem?_eq_getElem (by omega), h3⟩
theorem evLoad_ok [Glob] {o : Oper} {ty : TypeId} {x : Operand} {s : SV} (ho : o.op = .load ty x) (h : evLoad P σ.objs ty (σ.ev x) = some s) : PureOK P σ o True s := by
  intro K w I g tm hi _
  unfold evLoad at h
  split at h
  · rename_i c hx
    simp only [Option.bind_eq_some_iff] at h
    obtain ⟨cs, hcs, h⟩ := h
    obtain ⟨b, f, hu, hl⟩ := ldCells_ok hi (hi.ev_one hx).1 hcs
    split at h
    · rename_i hag
      split at h
      · rename_i c0 r
        cases h
        obtain ⟨v, h1, h2, h3⟩ := hl 0 c0 rfl
        rw [Nat.add_zero] at h1
        exact ⟨v, by simp [execOp, ho, hu, Instr.loadAt, Instr.sureAddr, run_loadVar_one hag h1], shape_one h2 h3⟩
      · cases h
    · rename_i n hag hsz
      cases hn : Nat.ble n cs.length with
      | false => rw [hn] at h; cases h
      | true =>
        rw [hn] at h
        cases h
        obtain ⟨us, hul, hus⟩ := agg_of hl n (Nat.le_of_ble_eq_true hn)
        have hlen : (cs.take n).length = n := by rw [List.length_take]; have := Nat.le_of_ble_eq_true hn; omega
        refine ⟨.agg us.toArray, by simp [execOp, ho, hu, Instr.loadAt, Instr.sureAddr, run_loadVar_agg hag hsz hul fun j u h => (hus j u h).1], ⟨us, rfl, by rw [hul, hlen], fun v hv => ?_⟩, fun i c hc => ?_⟩
        · obtain ⟨j, hj⟩ := List.mem_iff_getElem?.1 hv
          exact (hus j v hj).2.1
        · simp only [SV.cells] at hc
          rw [List.getElem?_take] at hc
          split at hc
          · rename_i hi'
            have hiu : i < us.length := by omega
            obtain ⟨_, _, c', h1, h2⟩ := hus i us[i] (List.getElem?_eq_getElem hiu)
            rw [hc] at h1
            cases h1
            exact ⟨us[i], by simp [valCells, Value.cells, hiu], h2⟩
          · cases hc
    · cases h
  · cases h

/-! ### Addresses -/
def addOff (ob : Nat → Option Ob) (off : Nat) : C → Option C
  | .pd t x j => some (.pd t x (j + off))
  | .rf o (.pb c) => match ob o with
    | some (.cells _) => some (.rf o (.pb (c + off)))
    | _ => none
  | .rf o (.pe i j) => match ob o with
    | some (.rows ..) => some (.rf o (.pe i (j + off)))
    | some (.fz ..) => some (.rf o (.pe i (j + off)))
    | _ => none
  | .rf o (.vp t x j) => match ob o with
    | some (.rows _ _ true _) => some (.rf o (.vp t x (j + off)))
    | some (.fz _ true _) => some (.rf o (.vp t x (j + off)))
    | _ => none
  | _ => none
theorem addOff_ok {w : World} {I : Nat → Prop} {g : Gh} {ob : Nat → Option Ob} {off : Nat} {c c' : C} {u : Value} (h : CR w I g ob c u) (hc : addOff ob off c = some c') : ∃ b f, u = .pointer (some ⟨b, f, none⟩) ∧ CR w I g ob c' (.pointer (some ⟨b, f + off, none⟩)) := by
  unfold addOff at hc
  split at hc
  · cases hc
    obtain ⟨b, o, us, rfl, hca, hr⟩ := h
    exact ⟨b, _, rfl, b, o, us, by rw [Nat.add_assoc], hca, hr⟩
  · rename_i o c0
    have h' : seeO w I (g.addr o) (g.base o) (g.L o) (ob o) (.pb c0) u := h
    split at hc
    · rename_i cs hq
      cases hc
      rw [hq] at h'
      refine ⟨_, _, h', ?_⟩
      show seeO _ _ _ _ _ (ob o) _ _
      rw [hq]
      show _ = _
      rw [Nat.add_assoc]
    · cases hc
  · rename_i o i j
    have h' : seeO w I (g.addr o) (g.base o) (g.L o) (ob o) (.pe i j) u := h
    split at hc
    · rename_i hq
      cases hc
      rw [hq] at h'
      obtain ⟨b, f1, cap, h1, h2, rfl⟩ := h'
      refine ⟨_, _, rfl, ?_⟩
      show seeO _ _ _ _ _ (ob o) _ _
      rw [hq]
      exact ⟨b, f1, cap, h1, h2, by rw [Nat.add_assoc]⟩
    · rename_i hq
      cases hc
      rw [hq] at h'
      obtain ⟨b, f1, cap, h1, h2, rfl⟩ := h'
      refine ⟨_, _, rfl, ?_⟩
      show seeO _ _ _ _ _ (ob o) _ _
      rw [hq]
      exact ⟨b, f1, cap, h1, h2, by rw [Nat.add_assoc]⟩
    · cases hc
  · rename_i o t x j
    have h' : seeO w I (g.addr o) (g.base o) (g.L o) (ob o) (.vp t x j) u := h
    split at hc
    · rename_i hq
      cases hc
      rw [hq] at h'
      obtain ⟨b, f, us, rfl, hca, hr⟩ := h'
      refine ⟨_, _, rfl, ?_⟩
      show seeO _ _ _ _ _ (ob o) _ _
      rw [hq]
      exact ⟨b, f, us, by rw [Nat.add_assoc], hca, hr⟩
    · rename_i hq
      cases hc
      rw [hq] at h'
      obtain ⟨b, f, us, rfl, hca, hr⟩ := h'
      refine ⟨_, _, rfl, ?_⟩
      show seeO _ _ _ _ _ (ob o) _ _
      rw [hq]
      exact ⟨b, f, us, by rw [Nat.add_assoc], hca, hr⟩
    · cases hc
  · cases hc
def evFAddr (P : Program) (ob : Nat → Option Ob) (ty : TypeId) (f : Nat) : SV → Option SV
  | .one c => (fieldOff P ty f).bind fun off => (addOff ob off c).map SV.one
  | _ => none
theorem evFAddr_ok [Glob] {o : Oper} {ty : TypeId} {x : Operand} {f : Nat} {s : SV} (ho : o.op = .fieldAddr ty x f) (h : evFAddr P σ.objs ty f (σ.ev x) = some s) : PureOK P σ o True s := by
  intro K w I g tm hi _
  unfold evFAddr at h
  split at h
  · rename_i c hx
    simp only [Option.bind_eq_some_iff, Option.map_eq_some_iff] at h
    obtain ⟨off, hoff, c', hc', rfl⟩ := h
    obtain ⟨b, f', hu, hr⟩ := addOff_ok (hi.ev_one hx).1 hc'
    exact ⟨_, by simp [execOp, ho, hu, run_fieldAt hoff], shape_one rfl hr⟩
  · cases h
/-- A pointer that is not nil. -/
def evNil (ob : Nat → Option Ob) : SV → Option SV
  | .one c => (addOff ob 0 c).map fun _ => .one c
  | _ => none
theorem evNil_ok [Glob] {o : Oper} {x : Operand} {s : SV} (ho : o.op = .nilCheck x) (h : evNil σ.objs (σ.ev x) = some s) : PureOK P σ o True s := by
  intro K w I g tm hi _
  unfold evNil at h
  split at h
  · rename_i c hx
    simp only [Option.map_eq_some_iff] at h
    obtain ⟨c', hc', rfl⟩ := h
    obtain ⟨b, f', hu, hr⟩ := addOff_ok (hi.ev_one hx).1 hc'
    have := (hi.ev_one hx).1
    rw [hu] at this
    exact ⟨_, by simp [execOp, ho, hu], shape_one rfl this⟩
  · cases h

end Go.LX
