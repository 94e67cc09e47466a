/- From a body to what the function does; the call of such a function. -/
import Derived.Test.YtbebnlhgnbnjoaaAxCall
namespace Go.AX

variable {P : Program} {σ : St}

/-- A result's value by its cells. -/
def ValOf (w : World) (I : Nat → Prop) (g : Gh) (σ : St) (tm : Array Value) (x : Bool × List (Pl × C)) (v : Value) : Prop :=
  (if x.1 = true then ∃ us : List Value, v = .agg us.toArray ∧ us.length = x.2.length else v.oneCell' = true ∧ x.2.length = 1) ∧
  ∀ (i : Nat) (y : Pl × C), x.2[i]? = some y → ∃ u, v.cells.toList[i]? = some u ∧ CR w I g σ tm y.1 y.2 u

theorem ValOf.len {w : World} {I : Nat → Prop} {g : Gh} {tm : Array Value} {x : Bool × List (Pl × C)} {v : Value} (h : ValOf w I g σ tm x v) : v.cells.toList.length = x.2.length := by
  obtain ⟨h1, _⟩ := h
  split at h1
  · obtain ⟨us, rfl, hl⟩ := h1; simpa [Value.cells] using hl
  · rw [h1.2]; have := h1.1; revert this; cases v <;> simp [Value.oneCell', Value.cells]
theorem vals_flat {w : World} {I : Nat → Prop} {g : Gh} {tm : Array Value} : ∀ {xs : List (Bool × List (Pl × C))} {vs : List Value}, All2 (ValOf w I g σ tm) xs vs → ∀ (i : Nat) (y : Pl × C), (xs.flatMap (·.2))[i]? = some y → ∃ u, (vs.flatMap fun v => v.cells.toList)[i]? = some u ∧ CR w I g σ tm y.1 y.2 u
  | [], [], _, i, y, hy => by simp at hy
  | x :: xs, v :: vs, h, i, y, hy => by
    have hl := h.1.len
    simp only [List.flatMap_cons, List.getElem?_append] at hy ⊢
    rw [hl]
    split at hy
    · rename_i hlt; rw [if_pos hlt]; exact h.1.2 i y hy
    · rename_i hlt; rw [if_neg hlt]; exact vals_flat h.2 _ y hy
  | [], _ :: _, h, _, _, _ => h.elim
  | _ :: _, [], h, _, _, _ => h.elim

theorem run_resMap {K : Ctx} {w : World} {I : Nat → Prop} {g : Gh} {tm : Array Value} (hi : Inv K w I g σ tm) : ∀ {rvs : List ResultVar} {xs : List (Bool × List (Pl × C))}, rvs.mapM (resOf P σ) = some xs →
    ∃ vs, (rvs.mapM (resSem tm)).run P w = .ok vs w ∧ All2 (ValOf w I g σ tm) xs vs
  | [], xs, h => by
    simp at h; subst h
    exact ⟨[], rfl, trivial⟩
  | rv :: rvs, xs, h => by
    rw [List.mapM_cons] at h
    cases h1 : resOf P σ rv with
    | none => simp [h1] at h
    | some x =>
      cases h2 : rvs.mapM (resOf P σ) with
      | none => simp [h1, h2] at h
      | some xs' =>
        simp [h1, h2] at h
        subst h
        obtain ⟨v, hv, hs, hc⟩ := res_val (P := P) hi h1
        obtain ⟨vs, hvs, hall⟩ := run_resMap hi h2
        refine ⟨v :: vs, ?_, ⟨hs, hc⟩, hall⟩
        rw [List.mapM_cons, Sem.run_bind, hv]
        simp only [Result.andThen_ok, Sem.run_bind, hvs, Sem.run_pure]

theorem run_results {K : Ctx} {w : World} {I : Nat → Prop} {g : Gh} {tm : Array Value} (hi : Inv K w I g σ tm) {fn : Func} {xs : List (Bool × List (Pl × C))} (h : fn.results.toList.mapM (resOf P σ) = some xs) :
    ∃ v, (results fn tm).run P w = .ok v w ∧ ShapeOK (packS xs) v ∧ (packS xs).cells = (xs.flatMap (·.2)).map (·.2) ∧ ∀ (i : Nat) (y : Pl × C), (xs.flatMap (·.2))[i]? = some y → ∃ u, (valCells v)[i]? = some u ∧ CR w I g σ tm y.1 y.2 u := by
  obtain ⟨vs, hvs, hall⟩ := run_resMap (P := P) hi h
  have hrun : (results fn tm).run P w = .ok (if h : vs.toArray.size = 1 then vs.toArray[0] else .tuple vs.toArray) w := by
    have e : fn.results = fn.results.toList.toArray := by simp
    unfold results
    rw [e]
    simp only [List.mapM_toArray, Sem.run_bind, Sem.run_map, Sem.run_pure]
    exact congrArg (fun r : Result (List Value) => (r.andThen fun a w' => Result.ok a.toArray w').andThen fun a w' => Result.ok (if h : a.size = 1 then a[0] else Value.tuple a) w') hvs
  refine ⟨_, hrun, ?_⟩
  have hflat := vals_flat hall
  have hlen := hall.length
  have cellsTu : ∀ ys : List (Bool × List (Pl × C)), (SV.tu (ys.map fun x => (x.1, x.2.map (·.2)))).cells = (ys.flatMap (·.2)).map (·.2) := by
    intro ys
    simp only [SV.cells]
    induction ys with
    | nil => rfl
    | cons y ys ih => simp [ih]
  have shapeTu : ∀ (ys : List (Bool × List (Pl × C))) (us : List Value), All2 (ValOf w I g σ tm) ys us → ShapeOK (.tu (ys.map fun x => (x.1, x.2.map (·.2)))) (.tuple us.toArray) := by
    intro ys us hh
    refine ⟨us, rfl, ?_⟩
    induction ys generalizing us with
    | nil => cases us with
      | nil => trivial
      | cons => exact hh.elim
    | cons y ys ih => cases us with
      | nil => exact hh.elim
      | cons u us =>
        refine ⟨?_, ih us hh.2⟩
        have := hh.1.1
        simp only [List.length_map]
        exact this
  match xs, vs, hall, hlen, hflat with
  | [], [], _, _, _ => exact ⟨⟨[], rfl, trivial⟩, rfl, fun i y hy => by simp at hy⟩
  | [(true, zs)], [v], hall, _, hflat =>
    obtain ⟨us, rfl, hl⟩ := hall.1.1
    refine ⟨⟨us, rfl, by simpa using hl⟩, by simp [packS, SV.cells], fun i y hy => ?_⟩
    obtain ⟨u, hu, hr⟩ := hflat i y hy
    exact ⟨u, by simpa [valCells, Value.cells] using hu, hr⟩
  | [(false, [z])], [v], hall, _, hflat =>
    have h1 : v.oneCell' = true := hall.1.1.1
    refine ⟨h1, rfl, fun i y hy => ?_⟩
    obtain ⟨u, hu, hr⟩ := hflat i y hy
    refine ⟨u, ?_, hr⟩
    simp only [List.flatMap_cons, List.flatMap_nil, List.append_nil] at hu
    revert h1 hu
    show v.oneCell' = true → v.cells.toList[i]? = some u → (valCells v)[i]? = some u
    cases v <;> simp [Value.oneCell', valCells, Value.cells]
  | [(false, [])], [v], hall, _, _ => exact absurd hall.1.1.2 (by simp)
  | [(false, _ :: _ :: _)], [v], hall, _, _ => exact absurd hall.1.1.2 (by simp)
  | x :: x' :: xs, v :: v' :: vs, hall, _, hflat =>
    have e : packS (x :: x' :: xs) = .tu ((x :: x' :: xs).map fun x => (x.1, x.2.map (·.2))) := by
      rcases x with ⟨b, l⟩
      cases b <;> (cases l with
        | nil => rfl
        | cons a l => cases l <;> rfl)
    rw [e]
    refine ⟨?_, cellsTu _, fun i y hy => ?_⟩
    · have := shapeTu _ _ hall
      simpa using this
    · obtain ⟨u, hu, hr⟩ := hflat i y hy
      exact ⟨u, by simpa [valCells] using hu, hr⟩

theorem nodup_inj {α : Type} {l : List α} (h : l.Nodup) {i j : Nat} {a : α} (hi : l[i]? = some a) (hj : l[j]? = some a) : i = j := by
  obtain ⟨h1, e1⟩ := List.getElem?_eq_some_iff.1 hi
  obtain ⟨h2, e2⟩ := List.getElem?_eq_some_iff.1 hj
  exact (List.getElem_inj h).1 (e1.trans e2.symm)

/-- What a call of a function must leave. -/
def FnPost (alias : Bool) (w : World) (S : Nat → Prop) (r : SV) (e : Ending) (w' : World) : Prop :=
  ∃ v, e = .returned v ∧ Go.RowKit.Below w.heap.size w w' ∧ ∃ (I' : Nat → Prop) (L : Nat → List Nat),
      (∀ b, I' b → b < w'.heap.size ∧ (b < w.heap.size → alias = true ∧ S b)) ∧
      (∀ i j b, b ∈ L i → b ∈ L j → i = j) ∧ (∀ i, (L i).Nodup) ∧ (∀ i b, b ∈ L i → ¬ I' b ∧ w.heap.size ≤ b ∧ b < w'.heap.size) ∧
      ShapeOK r v ∧ ∀ (i : Nat) (c : C), r.cells[i]? = some c → ∃ u, (valCells v)[i]? = some u ∧ ResR w' I' (L i) c u
theorem wp_fin {fn : Func} {c : Code} {alias : Bool} {r : SV} {w : World} {S : Nat → Prop} {g : Gh} {tm : Array Value} (hinv : Inv ⟨w, S, fun _ => False, fun _ _ => False⟩ w S g σ tm) (hW : W P c (RetQ P fn alias r) σ) : c.wp P (bodyPost P fn (FnPost alias w S r)) ⟨tm, []⟩ w := by
  refine wp_mono (hW _ w S _ _ hinv) ?_
  rintro e ⟨tm, df⟩ w' ⟨hd, σ', I', g', q, hi⟩
  obtain rfl : df = [] := hd
  have main : RetS P fn alias r σ' → bodyPost P fn (fun e w' => ∃ v, e = .returned v ∧ Go.RowKit.Below w.heap.size w w' ∧ ∃ (I' : Nat → Prop) (L : Nat → List Nat),
      (∀ b, I' b → b < w'.heap.size ∧ (b < w.heap.size → alias = true ∧ S b)) ∧
      (∀ i j b, b ∈ L i → b ∈ L j → i = j) ∧ (∀ i, (L i).Nodup) ∧ (∀ i b, b ∈ L i → ¬ I' b ∧ w.heap.size ≤ b ∧ b < w'.heap.size) ∧
      ShapeOK r v ∧ ∀ (i : Nat) (c : C), r.cells[i]? = some c → ∃ u, (valCells v)[i]? = some u ∧ ResR w' I' (L i) c u) .ret ⟨tm, []⟩ w' := by
    rintro ⟨xs, hxs, rfl, hret, hnd⟩
    obtain ⟨v, hv, hsh, hcells, hall⟩ := run_results (P := P) hi hxs
    refine ⟨rfl, v, hv, v, rfl, ⟨hi.fr.os, hi.fr.tape, hi.fr.output, hi.fr.size, fun b hb => hi.fr.old b hb (fun h => h) (fun _ h => h)⟩, ?_⟩
    let pls := (xs.flatMap (·.2)).map (·.1)
    refine ⟨fun b => I' b ∧ (alias = true ∨ w.heap.size ≤ b), fun i => match pls[i]? with | some p => (match (packS xs).cells[i]? with | some (.ow ..) => g'.L p | _ => []) | none => [], ?_, ?_, ?_, ?_, hsh, ?_⟩
    · rintro b ⟨h1, h2⟩
      refine ⟨(hi.immX b h1).1, fun hlt => ?_⟩
      rcases h2 with h2 | h2
      · refine ⟨h2, ?_⟩
        rcases (hi.immX b h1).2 hlt with h3 | h3
        · exact h3
        · exact h3.elim
      · have : b < w.heap.size := hlt
        omega
    · intro i j b hbi hbj
      simp only at hbi hbj
      cases hpi : pls[i]? with
      | none => simp [hpi] at hbi
      | some p =>
        cases hpj : pls[j]? with
        | none => simp [hpj] at hbj
        | some q =>
          simp only [hpi] at hbi
          simp only [hpj] at hbj
          split at hbi
          · split at hbj
            · have := hi.dis p q b hbi hbj
              subst this
              exact nodup_inj hnd hpi hpj
            · cases hbj
          · cases hbi
    · intro i
      simp only
      split
      · split
        · exact hi.nod _
        · exact List.nodup_nil
      · exact List.nodup_nil
    · intro i b hb
      simp only at hb
      split at hb
      · split at hb
        · obtain ⟨h1, h2, h3⟩ := hi.own _ b hb
          refine ⟨fun hh => h1 hh.1, ?_, h2⟩
          rcases Nat.lt_or_ge b w.heap.size with hlt | hge
          · exact (h3 hlt).elim
          · exact hge
        · cases hb
      · cases hb
    · intro i c hc
      have hc' := hc
      rw [hcells, List.getElem?_map, Option.map_eq_some_iff] at hc'
      obtain ⟨y, hy, rfl⟩ := hc'
      obtain ⟨u, hu, hr⟩ := hall i y hy
      refine ⟨u, hu, ?_⟩
      have hp : pls[i]? = some y.1 := by simp [pls, hy]
      have hrc : retC alias y.2 := by
        obtain ⟨x, hx, hyx⟩ := List.mem_flatMap.1 (List.mem_of_getElem? hy)
        exact hret x hx y hyx
      simp only [hp, hc]
      have sub : alias = true → ∀ b, I' b → I' b ∧ (alias = true ∨ w.heap.size ≤ b) := fun ha b hb => ⟨hb, .inl ha⟩
      cases hy2 : y.2 with
      | d x =>
        rw [hy2] at hr hrc
        rcases hrc with ha | hv
        · exact Rd.sub hr (sub ha)
        · exact Rd.okAny hr hv
      | ow e size k rs =>
        rw [hy2] at hr hrc
        refine ⟨?_, hrc.2⟩
        rcases hrc.1 with ha | hv
        · exact ROT.kept hr.1 (sub ha) (fun _ _ _ => rfl) (fun _ _ => rfl)
        · exact ROT.okAny hv hr.1
      | nl => rw [hy2] at hr; exact hr
      | any => trivial
      | vw p wh rs => rw [hy2] at hrc; exact hrc.elim
      | bp o c => rw [hy2] at hrc; exact hrc.elim
      | ep p i j => rw [hy2] at hrc; exact hrc.elim
      | fc fn caps => rw [hy2] at hrc; exact hrc.elim
      | vp p cs => rw [hy2] at hrc; exact hrc.elim
  cases e with
  | normal => exact main q
  | ret => exact main q
  | exit id => exact q.elim
  | goto l => exact q.elim
  | panic ch => exact q.elim
  | outgrown => exact q.elim

/-- A function by its body. -/
theorem FnOK_of {f : FuncId} {fn : Func} {c : Code} {alias : Bool} {args : List (Bool × List D)} {r : SV} (hf : P.funcs[f]? = some fn) (hb : fn.body = some c) (hn : Nat.ble args.length fn.ntmps = true)
    (hW : W P c (RetQ P fn alias r) (St.enter fn.ntmps args)) : FnOK P f alias args r := by
  intro w S vals hS hargs
  refine calls_of_wp hf hb ?_
  have hinv := Inv.enter (n := fn.ntmps) hS hargs (Nat.le_of_ble_eq_true hn)
  have e0 : vals.toArray ++ Array.replicate (fn.ntmps - vals.toArray.size) undef = vals.toArray ++ Array.replicate (fn.ntmps - vals.length) undef := by simp
  rw [e0]
  exact wp_fin hinv hW

/-- A function that is handed the nil slice and a whole number. -/
def FnNl (P : Program) (f : FuncId) (k : IntKind) (n : Int) (r : SV) : Prop := ∀ w : World, Calls P f #[.slice none 0 0, .int k n] w (FnPost false w (fun _ => False) r)
def St.enterNl (m : Nat) (k : IntKind) (n : Int) : St := ⟨m, fun t => match t with | 0 => .one .nl | 1 => .one (.d (.v (.int k n))) | _ => .un, fun _ => none⟩
theorem FnNl_of {f : FuncId} {fn : Func} {c : Code} {k : IntKind} {n : Int} {r : SV} (hf : P.funcs[f]? = some fn) (hb : fn.body = some c) (hn : Nat.ble 2 fn.ntmps = true) (hW : W P c (RetQ P fn false r) (St.enterNl fn.ntmps k n)) : FnNl P f k n r := by
  intro w
  refine calls_of_wp hf hb ?_
  have hn := Nat.le_of_ble_eq_true hn
  have h0 := Inv.enter (w := w) (S := fun _ => False) (args := [(false, [.sl []]), (false, [.v (.int k n)])]) (vals := [.slice none 0 0, .int k n]) (n := fn.ntmps) (fun _ h => h.elim)
    ⟨Rd.sl_iff.2 ⟨none, 0, rfl, Nat.le_refl _, Nat.zero_le _, fun i row hr => by simp at hr⟩, Rd.v.2 ⟨rfl, rfl⟩, trivial⟩ hn
  have hinv : Inv ⟨w, fun _ => False, fun _ => False, fun _ _ => False⟩ w (fun _ => False) ⟨fun _ => (0, 0), fun _ => []⟩ (St.enterNl fn.ntmps k n) ([Value.slice none 0 0, .int k n].toArray ++ Array.replicate (fn.ntmps - 2) undef) :=
    { h0 with
      nil := fun _ _ => rfl
      boxd := fun o o' ho => by cases ho
      boxi := fun o ho => by cases ho
      boxc := fun o cs ho => by cases ho
      shape := fun t => by
        match t with
        | 0 => exact h0.shape 0
        | 1 => exact h0.shape 1
        | t + 2 => exact trivial
      slot := fun t i c hc => by
        match t with
        | 0 =>
          obtain ⟨rfl, rfl⟩ := one_cell hc
          have hg0 : ([Value.slice none 0 0, .int k n].toArray ++ Array.replicate (fn.ntmps - 2) undef).getD 0 undef = .slice none 0 0 := by simp [Array.getD_eq_getD_getElem?, Array.getElem?_append]
          rw [hg0]
          exact ⟨.slice none 0 0, rfl, rfl⟩
        | 1 =>
          obtain ⟨rfl, rfl⟩ := one_cell hc
          have hg1 : ([Value.slice none 0 0, .int k n].toArray ++ Array.replicate (fn.ntmps - 2) undef).getD 1 undef = .int k n := by simp [Array.getD_eq_getD_getElem?, Array.getElem?_append]
          rw [hg1]
          exact ⟨.int k n, rfl, Rd.v.2 ⟨rfl, rfl⟩⟩
        | t + 2 => simp [St.enterNl, SV.cells] at hc }
  exact wp_fin hinv hW

/-! ### The call -/
def C.toD : C → Option D
  | .d x => some x
  | .vw _ _ rs => some (.sl rs)
  | .nl => some (.sl [])
  | .vp _ cs => some (.p cs)
  | _ => none
def SV.toA : SV → Option (Bool × List D)
  | .one c => c.toD.map fun d => (false, [d])
  | .ag cs => (cs.mapM C.toD).map fun ds => (true, ds)
  | _ => none

theorem CR.toD {K : Ctx} {w : World} {I : Nat → Prop} {g : Gh} {tm : Array Value} (hi : Inv K w I g σ tm) {pl : Pl} {c : C} {u : Value} {d : D} (h : CR w I g σ tm pl c u) (hc : c.toD = some d) : Rd w (fun b => b < w.heap.size) d u := by
  have hI : ∀ b, I b → b < w.heap.size := fun b hb => (hi.immX b hb).1
  cases c with
  | d x => simp [C.toD] at hc; subst hc; exact Rd.sub h hI
  | vw p wh rs => simp [C.toD] at hc; subst hc; exact h.1.sub fun b hb => hb.elim (hI b) fun hb => (hi.own p b hb).2.1
  | nl => simp [C.toD] at hc; subst hc; exact Rd.sl_iff.2 ⟨none, 0, h, Nat.le_refl _, Nat.zero_le _, fun i row hr => by simp at hr⟩
  | vp p cs => simp [C.toD] at hc; subst hc; exact Rd.sub h fun b hb => hb.elim (hI b) fun hb => (hi.own p b hb).2.1
  | _ => simp [C.toD] at hc

theorem argR_of {K : Ctx} {w : World} {I : Nat → Prop} {g : Gh} {tm : Array Value} (hi : Inv K w I g σ tm) {S : Nat → Prop} {x : Operand} {a : Bool × List D} (hx : (σ.evv x).toA = some a)
    (hto : ∀ pl c u d, c ∈ (σ.evv x).cells → CR w I g σ tm pl c u → c.toD = some d → Rd w S d u) : argR w S a (Act.eval ⟨tm, []⟩ x) := by
  obtain ⟨h1, h2⟩ := hi.evv x rfl
  cases hs : σ.evv x with
  | one c =>
    rw [hs] at hx h1 h2 hto
    simp only [SV.toA, Option.map_eq_some_iff] at hx
    obtain ⟨d, hd, rfl⟩ := hx
    obtain ⟨_, u, hu, hr⟩ := h2 0 c rfl
    have hone : (Act.eval ⟨tm, []⟩ x).oneCell' = true := h1
    have : valCells (Act.eval ⟨tm, []⟩ x) = [Act.eval ⟨tm, []⟩ x] := by
      revert hone
      cases Act.eval ⟨tm, []⟩ x <;> simp [Value.oneCell', valCells, Value.cells]
    rw [this] at hu
    simp at hu
    subst hu
    exact hto ⟨false, 0, 0⟩ c _ d (by simp [SV.cells]) (hr _) hd
  | ag cs =>
    rw [hs] at hx h1 h2 hto
    simp only [SV.toA, Option.map_eq_some_iff] at hx
    obtain ⟨ds, hds, rfl⟩ := hx
    obtain ⟨us, hus, hl⟩ := h1
    refine ⟨us, hus, ?_⟩
    rw [hus] at h2
    have key : ∀ (cs : List C) (ds : List D) (us : List Value), cs.mapM C.toD = some ds → us.length = cs.length → (∀ c ∈ cs, c ∈ (SV.ag cs).cells → True) →
        (∀ (i : Nat) (c : C), cs[i]? = some c → ∃ u, us[i]? = some u ∧ ∀ d, c.toD = some d → Rd w S d u) → All2 (Rd w S) ds us := by
      intro cs
      induction cs with
      | nil =>
        intro ds us hm hlen _ _
        simp at hm
        subst hm
        cases us with
        | nil => trivial
        | cons => simp at hlen
      | cons c cs ih =>
        intro ds us hm hlen _ hg
        cases us with
        | nil => simp at hlen
        | cons u us =>
          rw [List.mapM_cons] at hm
          cases hd : c.toD with
          | none => simp [hd] at hm
          | some d =>
            cases hds' : cs.mapM C.toD with
            | none => simp [hd, hds'] at hm
            | some ds' =>
              simp [hd, hds'] at hm
              subst hm
              obtain ⟨u', hu', hr⟩ := hg 0 c rfl
              simp at hu'
              subst hu'
              exact ⟨hr d hd, ih ds' us hds' (by simpa using hlen) (fun _ _ _ => trivial) fun i c hc => by
                obtain ⟨u, hu, hr⟩ := hg (i + 1) c (by simpa using hc)
                exact ⟨u, by simpa using hu, hr⟩⟩
    refine key cs ds us hds hl (fun _ _ _ => trivial) fun i c hc => ?_
    obtain ⟨_, u, hu, hr⟩ := h2 i c hc
    refine ⟨u, by simpa [valCells, Value.cells] using hu, fun d hd => hto ⟨false, 0, 0⟩ c u d (List.mem_of_getElem? hc) (hr _) hd⟩
  | tu xs => rw [hs] at hx; simp [SV.toA] at hx
  | un => rw [hs] at hx; simp [SV.toA] at hx

end Go.AX
