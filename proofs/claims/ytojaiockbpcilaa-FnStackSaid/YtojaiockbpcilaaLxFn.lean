/- The end of a body: what it hands back; a function by its body. -/
import Derived.Test.YtojaiockbpcilaaLxEnter
set_option linter.unusedVariables false
set_option linter.unusedSimpArgs false
namespace Go.LX

variable {P : Program} {σ : St}

/-! ### Cells held against what they should be -/
def msP (ob : Nat → Option Ob) : S0 → C → Prop
  | .d t x, c => asT ob t c = some x
  | .own e t dp xs, .rf o .ar => ob o = some (.rows e t dp xs)
  | .own e t dp xs, .nl => xs = []
  | .any, _ => True
  | _, _ => False
def msO : S0 → C → List Nat
  | .own .., .rf o .ar => [o]
  | _, _ => []
def msPs (ob : Nat → Option Ob) : List S0 → List C → Prop
  | [], [] => True
  | s :: ss, c :: cs => msP ob s c ∧ msPs ob ss cs
  | _, _ => False
def msOs : List S0 → List C → List Nat
  | s :: ss, c :: cs => msO s c ++ msOs ss cs
  | _, _ => []
theorem msPs_len {ob : Nat → Option Ob} : ∀ {ss : List S0} {cs : List C}, msPs ob ss cs → ss.length = cs.length
  | [], [], _ => rfl
  | _ :: _, _ :: _, h => congrArg (· + 1) (msPs_len h.2)
  | [], _ :: _, h => h.elim
  | _ :: _, [], h => h.elim
theorem msPs_app {ob : Nat → Option Ob} : ∀ {ss ss' : List S0} {cs cs' : List C}, msPs ob ss cs → msPs ob ss' cs' → msPs ob (ss ++ ss') (cs ++ cs') ∧ msOs (ss ++ ss') (cs ++ cs') = msOs ss cs ++ msOs ss' cs'
  | [], _, [], _, _, h => ⟨h, rfl⟩
  | s :: ss, _, c :: cs, _, h, h' => by
    obtain ⟨q1, q2⟩ := msPs_app h.2 h'
    exact ⟨⟨h.1, q1⟩, by simp [msOs, q2]⟩
  | [], _, _ :: _, _, h, _ => h.elim
  | _ :: _, _, [], _, h, _ => h.elim
section
variable {K : Ctx} {w : World} {I : Nat → Prop} {g : Gh} {tm : Array Value}
theorem SR.of [Glob] (hi : Inv K w I g σ tm) {s : S0} {c : C} {u : Value} (h : msP σ.objs s c) (h1 : u.oneCell' = true) (hc : CR w I g σ.objs c u) : SR w I s u ((msO s c).flatMap g.L) := by
  cases s with
  | d t x => exact ⟨by cases c <;> rfl, asT_ok hi hc h⟩
  | any => exact ⟨by cases c <;> rfl, h1⟩
  | own e t dp xs =>
    cases c with
    | rf o r =>
      cases r with
      | ar =>
        have h : σ.objs o = some (.rows e t dp xs) := h
        have hc' : seeO w I (g.addr o) (g.base o) (g.L o) (σ.objs o) .ar u := hc
        rw [h] at hc'
        have hu : u = g.base o := hc'
        subst hu
        show OA w I dp e t xs (g.base o) _
        simp only [msO, List.flatMap_cons, List.flatMap_nil, List.append_nil]
        exact hi.rows h
      | _ => exact h.elim
    | nl =>
      have hx : xs = [] := h
      subst hx
      have hu : u = .slice none 0 0 := hc
      subst hu
      exact ⟨[], [], ownsR_nil w e t.w, ⟨rfl, rfl⟩, rfl⟩
    | _ => exact h.elim
theorem SRs.of [Glob] (hi : Inv K w I g σ tm) : ∀ {ss : List S0} {cs : List C} {us : List Value}, msPs σ.objs ss cs → us.length = cs.length → (∀ (j : Nat) (c : C), cs[j]? = some c → ∃ u, us[j]? = some u ∧ u.oneCell' = true ∧ CR w I g σ.objs c u) → SRs w I ss us ((msOs ss cs).flatMap g.L)
  | [], [], us, _, hl, _ => ⟨List.eq_nil_of_length_eq_zero hl, rfl⟩
  | s :: ss, c :: cs, [], _, hl, _ => by simp at hl
  | s :: ss, c :: cs, u :: us, h, hl, hc => by
    obtain ⟨v, q1, q2, q3⟩ := hc 0 c rfl
    simp at q1
    subst q1
    refine ⟨[u], us, _, _, rfl, by simp only [msOs, List.flatMap_append], ⟨u, rfl, SR.of hi h.1 q2 q3⟩, SRs.of hi h.2 (by simpa using hl) fun j c hj => ?_⟩
    obtain ⟨v, q1, q2⟩ := hc (j + 1) c (by simpa using hj)
    exact ⟨v, by simpa using q1, q2⟩
  | [], _ :: _, _, h, _, _ => h.elim
  | _ :: _, [], _, h, _, _ => h.elim
end

/-! ### Results -/
def resOf (P : Program) (σ : St) : ResultVar → Option (Bool × List C)
  | .tmp t => match σ.slots t with
    | .one c => some (false, [c])
    | .ag cs => some (true, cs)
    | _ => none
  | .cell a ty => match σ.slots a with
    | .one (.rf o (.pb c)) => match σ.objs o with
      | some (.cells cs) => match aggB P ty, sizeB P ty with
        | some true, some n => bif Nat.ble (c + n) cs.length then some (true, (cs.drop c).take n) else none
        | some false, _ => (cs[c]?).map fun x => (false, [x])
        | _, _ => none
      | _ => none
    | _ => none
def resSem (tm : Array Value) : ResultVar → Sem Value
  | .tmp t => pure (tm.getD t undef)
  | .cell a ty => do loadVar ty (← asAddr (tm.getD a undef))
def ValOf (w : World) (I : Nat → Prop) (g : Gh) (ob : Nat → Option Ob) (x : Bool × List C) (v : Value) : Prop :=
  (if x.1 = true then AggOK x.2.length v else v.oneCell' = true ∧ x.2.length = 1) ∧ ∀ (i : Nat) (c : C), x.2[i]? = some c → ∃ u, v.cells.toList[i]? = some u ∧ u.oneCell' = true ∧ CR w I g ob c u
section
variable {K : Ctx} {w : World} {I : Nat → Prop} {g : Gh} {tm : Array Value}
theorem res_val [Glob] (hi : Inv K w I g σ tm) {rv : ResultVar} {x : Bool × List C} (hx : resOf P σ rv = some x) : ∃ v, (resSem tm rv).run P w = .ok v w ∧ ValOf w I g σ.objs x v := by
  cases rv with
  | tmp t =>
    simp only [resOf] at hx
    have hs := hi.shape t
    have hc := hi.slot t
    cases hsl : σ.slots t with
    | one c =>
      simp only [hsl] at hx hs hc
      cases hx
      have h1 : (tm.getD t undef).oneCell' = true := hs
      have e : (tm.getD t undef).cells.toList = [tm.getD t undef] := by rw [← val_one h1]; revert h1; cases tm.getD t undef <;> simp [Value.oneCell', valCells]
      refine ⟨tm.getD t undef, rfl, ⟨h1, rfl⟩, fun i c' hc' => ?_⟩
      obtain ⟨rfl, rfl⟩ := get_single hc'
      obtain ⟨u, hu, hr⟩ := hc 0 c' rfl
      rw [val_one h1] at hu
      have hu' : tm.getD t undef = u := Option.some.inj hu
      rw [← hu'] at hr
      exact ⟨_, by rw [e]; rfl, h1, hr⟩
    | ag cs =>
      simp only [hsl] at hx hs hc
      cases hx
      obtain ⟨us, hus, hl, h1⟩ := hs
      refine ⟨tm.getD t undef, rfl, ⟨us, hus, hl, h1⟩, fun i c hc' => ?_⟩
      obtain ⟨u, hu, hr⟩ := hc i c hc'
      rw [hus] at hu ⊢
      have hu' : us[i]? = some u := by simpa [valCells, Value.cells] using hu
      exact ⟨u, by simpa [Value.cells] using hu', h1 u (List.mem_of_getElem? hu'), hr⟩
    | tu xs => simp [hsl] at hx
    | un => simp [hsl] at hx
  | cell a ty =>
    simp only [resOf] at hx
    split at hx
    · rename_i o c hsl
      split at hx
      · rename_i cs hq
        have hev : tm.getD a undef = .pointer (some ⟨(g.addr o).1, (g.addr o).2 + c, none⟩) := by
          have := (hi.ev_one (x := .tmp a) hsl).1
          have h' : seeO w I (g.addr o) (g.base o) (g.L o) (σ.objs o) (.pb c) (tm.getD a undef) := this
          rw [hq] at h'; exact h'
        have hbx := (hi.cells hq).2
        split at hx
        · rename_i n hag hsz
          cases hb : Nat.ble (c + n) cs.length with
          | false => rw [hb] at hx; cases hx
          | true =>
            rw [hb] at hx
            cases hx
            have hle := Nat.le_of_ble_eq_true hb
            obtain ⟨us, hul, hus⟩ := agg_of (cs := cs.drop c) (b := (g.addr o).1) (f := (g.addr o).2 + c) (w := w) (I := I) (g := g) (ob := σ.objs) (fun j c0 hj => by
              rw [List.getElem?_drop] at hj
              obtain ⟨v, q1, _, q3, _, q5⟩ := hbx _ c0 hj
              rw [Nat.add_assoc]
              exact ⟨v, q1, q3, q5⟩) n (by simp; omega)
            have h1 : ∀ v ∈ us, v.oneCell' = true := fun v hv => by
              obtain ⟨j, hj⟩ := List.mem_iff_getElem?.1 hv
              exact (hus j v hj).2.1
            refine ⟨.agg us.toArray, ?_, ?_, fun i c' hc' => ?_⟩
            · simp [resSem, hev, asAddr, run_loadVar_agg hag hsz hul fun j u h => (hus j u h).1]
            · simp only [if_true]; exact ⟨us, rfl, by rw [hul]; simp; omega, h1⟩
            · have hlt := (List.getElem?_eq_some_iff.1 hc').1
              have hiu : i < us.length := by simp at hlt; omega
              obtain ⟨_, q2, c0, q3, q4⟩ := hus i us[i] (List.getElem?_eq_getElem hiu)
              have : c0 = c' := by
                simp only at hc'
                rw [List.getElem?_take, if_pos (by omega), q3] at hc'
                exact Option.some.inj hc'
              subst this
              exact ⟨us[i], by simp [Value.cells, hiu], q2, q4⟩
        · rename_i hag
          simp only [Option.map_eq_some_iff] at hx
          obtain ⟨y, hy, rfl⟩ := hx
          obtain ⟨u, h1, _, h3, _, h5⟩ := hbx c y hy
          refine ⟨u, by simp [resSem, hev, asAddr, run_loadVar_one hag h1], by simpa using h3, fun i c' hc' => ?_⟩
          obtain ⟨rfl, rfl⟩ := get_single hc'
          exact ⟨u, by revert h3; cases u <;> simp [Value.oneCell', Value.cells], h3, h5⟩
        · cases hx
      · cases hx
    · cases hx
theorem run_resMap [Glob] (hi : Inv K w I g σ tm) : ∀ {rvs : List ResultVar} {xs : List (Bool × List C)}, rvs.mapM (resOf P σ) = some xs → ∃ vs, (rvs.mapM (resSem tm)).run P w = .ok vs w ∧ All2 (ValOf w I g σ.objs) xs vs
  | [], xs, h => by
    simp at h; subst h
    exact ⟨[], rfl, trivial⟩
  | rv :: rvs, xs, h => by
    rw [List.mapM_cons] at h
    cases h1 : resOf P σ rv with
    | none => simp [h1] at h
    | some x =>
      cases h2 : rvs.mapM (resOf P σ) with
      | none => simp [h1, h2] at h
      | some xs' =>
        simp [h1, h2] at h
        subst h
        obtain ⟨v, hv, hs⟩ := res_val (P := P) hi h1
        obtain ⟨vs, hvs, hall⟩ := run_resMap hi h2
        refine ⟨v :: vs, ?_, hs, hall⟩
        rw [List.mapM_cons, Sem.run_bind, hv]
        simp only [Result.andThen_ok, Sem.run_bind, hvs, Sem.run_pure]

/-- The results, held against what they should be. -/
def RsP (ob : Nat → Option Ob) : RS → List (Bool × List C) → Prop
  | .one s, [(false, [c])] => msP ob s c
  | .ag ss, [(true, cs)] => msPs ob ss cs
  | .tu xs, rs => rs.length ≠ 1 ∧ All2 (fun (x : Bool × List S0) (r : Bool × List C) => x.1 = r.1 ∧ msPs ob x.2 r.2) xs rs
  | _, _ => False
def RsO : RS → List (Bool × List C) → List Nat
  | .one s, [(false, [c])] => msO s c
  | .ag ss, [(true, cs)] => msOs ss cs
  | .tu xs, rs => msOs (xs.flatMap (·.2)) (rs.flatMap (·.2))
  | _, _ => []
theorem cells_len {x : Bool × List C} {v : Value} {w : World} {I : Nat → Prop} {g : Gh} {ob : Nat → Option Ob} (h : ValOf w I g ob x v) : v.cells.toList.length = x.2.length := by
  obtain ⟨h, _⟩ := h
  split at h
  · exact (agg_cells h).2.1
  · obtain ⟨h1, h2⟩ := h
    rw [h2]
    revert h1
    cases v <;> simp [Value.oneCell', Value.cells]
theorem run_results [Glob] (hi : Inv K w I g σ tm) {fn : Func} {rs : List (Bool × List C)} {res : RS} (h : fn.results.toList.mapM (resOf P σ) = some rs) (hr : RsP σ.objs res rs) :
    ∃ v, (results fn tm).run P w = .ok v w ∧ RR0 w I res v ((RsO res rs).flatMap g.L) := by
  obtain ⟨vs, hvs, hall⟩ := run_resMap (P := P) hi h
  have hrun : (results fn tm).run P w = .ok (if h : vs.toArray.size = 1 then vs.toArray[0] else .tuple vs.toArray) w := by
    have e : fn.results = fn.results.toList.toArray := by simp
    unfold results
    rw [e]
    simp only [List.mapM_toArray, Sem.run_bind, Sem.run_map, Sem.run_pure]
    exact congrArg (fun r : Result (List Value) => (r.andThen fun a w' => Result.ok a.toArray w').andThen fun a w' => Result.ok (if h : a.size = 1 then a[0] else Value.tuple a) w') hvs
  refine ⟨_, hrun, ?_⟩
  have hlen := hall.length
  cases res with
  | one s =>
    match rs, vs, hr, hall, hlen with
    | [(false, [c])], [v], hr, hall, _ =>
      have hv : v.oneCell' = true := by have := hall.1.1; simpa using this
      obtain ⟨u, q1, q2, q3⟩ := hall.1.2 0 c rfl
      have hu : u = v := by
        revert hv q1
        cases v <;> simp [Value.oneCell', Value.cells] <;> exact fun h => h.symm
      subst hu
      refine ⟨hv, ?_⟩
      show SRs w I [s] (valCells u) _
      rw [val_one hv]
      exact Rows.single.2 ⟨u, rfl, SR.of hi hr q2 q3⟩
  | ag ss =>
    match rs, vs, hr, hall, hlen with
    | [(true, cs)], [v], hr, hall, _ =>
      have hv : AggOK cs.length v := by have := hall.1.1; simpa using this
      obtain ⟨a1, a2, a3⟩ := agg_cells hv
      refine ⟨by show AggOK (ss.map _).length v; rw [List.length_map, msPs_len hr]; exact hv, ?_⟩
      show SRs w I ss (valCells v) _
      rw [a1]
      exact SRs.of hi hr a2 hall.1.2
  | tu xs =>
    obtain ⟨hne, hr⟩ := hr
    have hsz : ¬ vs.toArray.size = 1 := by simp; omega
    rw [dif_neg hsz]
    refine ⟨⟨vs, rfl, ?_⟩, ?_⟩
    · have key : ∀ (xs : List (Bool × List S0)) (rs : List (Bool × List C)) (vs : List Value), All2 (fun (x : Bool × List S0) (r : Bool × List C) => x.1 = r.1 ∧ msPs σ.objs x.2 r.2) xs rs → All2 (ValOf w I g σ.objs) rs vs →
          All2 (fun (x : Bool × List C) v => if x.1 = true then AggOK x.2.length v else v.oneCell' = true ∧ x.2.length = 1) (xs.map fun x => (x.1, x.2.map fun _ => C.any)) vs := by
        intro xs
        induction xs with
        | nil => intro rs vs h1 h2; cases rs with
          | nil => cases vs with
            | nil => trivial
            | cons => exact h2.elim
          | cons => exact h1.elim
        | cons x xs ih => intro rs vs h1 h2; cases rs with
          | nil => exact h1.elim
          | cons r rs => cases vs with
            | nil => exact h2.elim
            | cons v vs =>
              refine ⟨?_, ih rs vs h1.2 h2.2⟩
              have := h2.1.1
              obtain ⟨e1, e2⟩ := h1.1
              simp only [List.length_map, e1, msPs_len e2]
              exact this
      exact key xs rs vs hr hall
    · show SRs w I (xs.flatMap (·.2)) (vs.flatMap fun v => v.cells.toList) ((msOs (xs.flatMap (·.2)) (rs.flatMap (·.2))).flatMap g.L)
      have key : ∀ (xs : List (Bool × List S0)) (rs : List (Bool × List C)) (vs : List Value), All2 (fun (x : Bool × List S0) (r : Bool × List C) => x.1 = r.1 ∧ msPs σ.objs x.2 r.2) xs rs → All2 (ValOf w I g σ.objs) rs vs →
          msPs σ.objs (xs.flatMap (·.2)) (rs.flatMap (·.2)) ∧ (vs.flatMap fun v => v.cells.toList).length = (rs.flatMap (·.2)).length ∧ ∀ (j : Nat) (c : C), (rs.flatMap (·.2))[j]? = some c → ∃ u, (vs.flatMap fun v => v.cells.toList)[j]? = some u ∧ u.oneCell' = true ∧ CR w I g σ.objs c u := by
        intro xs
        induction xs with
        | nil => intro rs vs h1 h2; cases rs with
          | nil => cases vs with
            | nil => exact ⟨trivial, rfl, fun j c hj => by simp at hj⟩
            | cons => exact h2.elim
          | cons => exact h1.elim
        | cons x xs ih => intro rs vs h1 h2; cases rs with
          | nil => exact h1.elim
          | cons r rs => cases vs with
            | nil => exact h2.elim
            | cons v vs =>
              obtain ⟨i1, i2, i3⟩ := ih rs vs h1.2 h2.2
              have hcl := cells_len h2.1
              refine ⟨(msPs_app h1.1.2 i1).1, by simp only [List.flatMap_cons, List.length_append]; rw [hcl, i2], ?_⟩
              simp only [List.flatMap_cons]
              exact get_app (R := fun c u => u.oneCell' = true ∧ CR w I g σ.objs c u) hcl.symm (fun j c hj => h2.1.2 j c hj) (fun j c hj => i3 j c hj)
      obtain ⟨i1, i2, i3⟩ := key xs rs vs hr hall
      exact SRs.of hi i1 i2 i3

/-! ### What is left of the arguments -/
/-- Owned cells of a struct that was handed in, or of a cell: number id on. -/
def agP (ob : Nat → Option Ob) : Nat → List S0 → List S0 → Prop
  | _, [], [] => True
  | id, _ :: r, .any :: r' => agP ob (id + 1) r r'
  | id, .own .. :: r, .own e t dp xs :: r' => ob id = some (.rows e t dp xs) ∧ agP ob (id + 1) r r'
  | _, _, _ => False
def agO : Nat → List S0 → List Nat
  | _, [] => []
  | id, .own .. :: r => id :: agO (id + 1) r
  | id, _ :: r => agO (id + 1) r
def PoP (ob : Nat → Option Ob) (p : Nat) : SA → SA → Prop
  | .c s, .c s' => agP ob (16 * p + 1) [s] [s']
  | .sem _, .c .any => True
  | .pd _ _, .c .any => True
  | .nl, .c .any => True
  | .ag ss, .ag ss' => agP ob (16 * p + 1) ss ss'
  | .bx ss, .bx ss' => ss'.length = ss.length ∧ match ob (16 * p) with
    | some (.cells cs) => msPs ob ss' cs
    | _ => False
  | _, _ => False
def PoO (ob : Nat → Option Ob) (p : Nat) : SA → List Nat
  | .c s => agO (16 * p + 1) [s]
  | .ag ss => agO (16 * p + 1) ss
  | .bx ss => match ob (16 * p) with
    | some (.cells cs) => msOs ss cs
    | _ => []
  | .sem _ => []
  | .pd _ _ => []
  | .nl => []
def PoPs (ob : Nat → Option Ob) : Nat → List SA → List SA → Prop
  | _, [], [] => True
  | p, a :: as, b :: bs => PoP ob p a b ∧ PoPs ob (p + 1) as bs
  | _, _, _ => False
def PoOs (ob : Nat → Option Ob) : Nat → List SA → List Nat
  | _, [] => []
  | p, b :: bs => PoO ob p b ++ PoOs ob (p + 1) bs
def finX : Exit → Bool
  | .normal | .ret => true
  | _ => false
/-- What a body must end with. -/
def FnQ (P : Program) (fn : Func) (args post : List SA) (res : RS) (e : Exit) (σ : St) : Prop :=
  finX e = true ∧ PoPs σ.objs 0 args post ∧ ∃ rs, fn.results.toList.mapM (resOf P σ) = some rs ∧ RsP σ.objs res rs ∧ (PoOs σ.objs 0 post ++ RsO res rs).Nodup
def EndQ [Glob] (P : Program) (fn : Func) (args post : List SA) (res : RS) (e : Exit) (σ : St) : Prop := ∃ σ', Wk σ σ' ∧ FnQ P fn args post res e σ'

theorem agP_ok [Glob] (hi : Inv K w I g σ tm) {w0 : World} {I0 : Nat → Prop} : ∀ {ss ss' : List S0} {us : List Value} {L : List Nat} {id : Nat}, agP σ.objs id ss ss' → SRs w0 I0 ss us L → (∀ (j : Nat) (s : S0), ss[j]? = some s → (∃ e t dp xs, s = .own e t dp xs) → K.B (id + j) = us[j]?) → SRs w I ss' us ((agO id ss').flatMap g.L)
  | [], [], us, L, id, _, h, _ => ⟨h.1, rfl⟩
  | s :: ss, s' :: ss', us, L, id, h, hs, hB => by
    obtain ⟨u1, us2, L1, L2, rfl, rfl, ⟨u, rfl, h1⟩, h2⟩ := hs
    have hB' : ∀ (j : Nat) (s : S0), ss[j]? = some s → (∃ e t dp xs, s = .own e t dp xs) → K.B (id + 1 + j) = us2[j]? := fun j s hj ho => by
      have := hB (j + 1) s (by simpa using hj) ho
      rw [show id + 1 + j = id + (j + 1) by omega]; simpa using this
    cases s' with
    | any =>
      have h' : agP σ.objs (id + 1) ss ss' := by cases s <;> exact h
      exact ⟨[u], us2, [], _, rfl, rfl, ⟨u, rfl, rfl, h1.one⟩, agP_ok hi h' h2 hB'⟩
    | own e t dp xs =>
      cases s with
      | own e0 t0 dp0 xs0 =>
        obtain ⟨q1, q2⟩ := h
        have hb := hB 0 _ rfl ⟨_, _, _, _, rfl⟩
        rw [Nat.add_zero] at hb
        have hbase := (hi.exB id u hb).2 _ q1
        refine ⟨[u], us2, g.L id, _, rfl, by simp [agO], ⟨u, rfl, ?_⟩, agP_ok hi q2 h2 hB'⟩
        show OA w I dp e t xs u (g.L id)
        rw [← hbase]
        exact hi.rows q1
      | d t0 x0 => exact h.elim
      | any => exact h.elim
    | d t x => cases s <;> exact h.elim
  | [], _ :: _, _, _, _, h, _, _ => h.elim
  | _ :: _, [], _, _, _, h, _, _ => by
    rename_i s _ _ _ _ _
    cases s <;> exact h.elim
theorem PoPs_ok [Glob] (hi : Inv K w I g σ tm) {w0 : World} {I0 : Nat → Prop} : ∀ {as bs : List SA} {us : List Value} {L : List Nat} {B : List (Nat × Nat × Nat)} {p : Nat}, PoPs σ.objs p as bs → ARs w0 I0 as us L B → (∀ i, K.E (16 * (p + i)) = bxAt as[i]? us[i]?) → (∀ i j, j < 15 → K.B (16 * (p + i) + 1 + j) = ownAt as[i]? us[i]? j) → (as.all fun a => Nat.ble a.sz 14) = true →
    ARs w I bs us ((PoOs σ.objs p bs).flatMap g.L) B
  | [], [], us, L, B, p, _, h, _, _, _ => by
    cases us with
    | nil => exact ⟨rfl, h.2⟩
    | cons => exact h.elim
  | [], _ :: _, _, _, _, _, h, _, _, _, _ => h.elim
  | _ :: _, [], _, _, _, _, h, _, _, _, _ => h.elim
  | a :: as, b :: bs, us, L, B, p, h, hs, hE, hB, hsz => by
    cases us with
    | nil => exact hs.elim
    | cons u us =>
      obtain ⟨L1, L2, B1, B2, rfl, rfl, h1, h2⟩ := hs
      obtain ⟨q1, q2⟩ := h
      simp only [List.all_cons, Bool.and_eq_true] at hsz
      obtain ⟨sz1, sz2⟩ := hsz
      have sz1 := Nat.le_of_ble_eq_true sz1
      have rest := PoPs_ok hi (p := p + 1) q2 h2 (fun i => by have := hE (i + 1); rw [show 16 * (p + 1 + i) = 16 * (p + (i + 1)) by omega]; simpa using this) (fun i j hj => by have := hB (i + 1) j hj; rw [show 16 * (p + 1 + i) + 1 + j = 16 * (p + (i + 1)) + 1 + j by omega]; simpa using this) sz2
      have hEp : K.E (16 * p) = bxAt (some a) (some u) := by have := hE 0; simpa using this
      have hBp : ∀ j, j < 15 → K.B (16 * p + 1 + j) = ownAt (some a) (some u) j := fun j hj => by have := hB 0 j hj; simpa using this
      refine ⟨(PoO σ.objs p b).flatMap g.L, _, B1, B2, by simp [PoOs], rfl, ?_, rest⟩
      cases a with
      | c s =>
        obtain ⟨rfl, h1⟩ := h1
        cases b with
        | c s' =>
          have := agP_ok hi (us := [u]) q1 (Rows.single.2 ⟨u, rfl, h1⟩) fun j s0 hj ho => by
            obtain ⟨rfl, rfl⟩ := get_single hj
            obtain ⟨e, t, dp, xs, rfl⟩ := ho
            rw [hBp 0 (by omega)]; rfl
          obtain ⟨v, hv, hr⟩ := Rows.single.1 this
          cases hv
          exact ⟨rfl, hr⟩
        | _ => exact q1.elim
      | nl =>
        obtain ⟨rfl, rfl, rfl⟩ := h1
        cases b with
        | c s' => cases s' with
          | any => exact ⟨rfl, rfl, rfl⟩
          | _ => exact q1.elim
        | _ => exact q1.elim
      | pd t x =>
        obtain ⟨rfl, rfl, h1⟩ := h1
        have hone : u.oneCell' = true := by obtain ⟨b, o, us, rfl, _⟩ := h1; rfl
        cases b with
        | c s' => cases s' with
          | any => exact ⟨rfl, rfl, hone⟩
          | _ => exact q1.elim
        | _ => exact q1.elim
      | sem φ =>
        obtain ⟨rfl, rfl, h1, _⟩ := h1
        cases b with
        | c s' => cases s' with
          | any => exact ⟨rfl, rfl, h1⟩
          | _ => exact q1.elim
        | _ => exact q1.elim
      | ag ss =>
        obtain ⟨rfl, cs, rfl, h1⟩ := h1
        have sz1 : ss.length ≤ 14 := sz1
        cases b with
        | ag ss' =>
          refine ⟨rfl, cs, rfl, agP_ok hi q1 h1 fun j s0 hj ho => ?_⟩
          have := (List.getElem?_eq_some_iff.1 hj).1
          obtain ⟨e, t, dp, xs, rfl⟩ := ho
          rw [hBp j (by omega)]
          simp [ownAt, hj]
        | _ => exact q1.elim
      | bx ss =>
        obtain ⟨b0, f, cs0, rfl, rfl, h1, _⟩ := h1
        cases b with
        | bx ss' =>
          obtain ⟨q1, q3⟩ := q1
          cases hq : σ.objs (16 * p) with
          | none => rw [hq] at q3; exact q3.elim
          | some q =>
            rw [hq] at q3
            cases q with
            | cells cs =>
              have ha := ((hi.ext (16 * p) (b0, f) hEp).2 _ hq).1
              have hbx := (hi.cells hq).2
              unfold BoxR at hbx
              rw [ha] at hbx
              obtain ⟨us', hul, hus⟩ := agg_of (cs := cs) (b := b0) (f := f) (w := w) (I := I) (g := g) (ob := σ.objs) (fun j c0 hj => by
                obtain ⟨v, q1, _, q3, _, q5⟩ := hbx _ c0 hj
                exact ⟨v, q1, q3, q5⟩) cs.length (Nat.le_refl _)
              refine ⟨b0, f, us', rfl, by rw [q1], ?_, fun j v hv => ?_⟩
              · simp only [PoO, hq]
                refine SRs.of hi q3 hul fun j c hj => ?_
                have hlt : j < us'.length := by rw [hul]; exact (List.getElem?_eq_some_iff.1 hj).1
                obtain ⟨_, r2, c0, r3, r4⟩ := hus j us'[j] (List.getElem?_eq_getElem hlt)
                rw [hj] at r3
                cases r3
                exact ⟨_, List.getElem?_eq_getElem hlt, r2, r4⟩
              · have hlt := (List.getElem?_eq_some_iff.1 hv).1
                obtain ⟨v', r1, r2, _⟩ := hbx j cs[j] (List.getElem?_eq_getElem (by omega))
                refine ⟨(hus j v hv).1, r2⟩
            | _ => exact q3.elim
        | _ => exact q1.elim
end
end Go.LX
