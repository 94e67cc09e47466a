/- Function values: made, called; boxes that stand fixed from now on. -/
import Derived.Test.YtojaiockbpcilaaLxDeep
set_option linter.unusedVariables false
set_option linter.unusedSimpArgs false
namespace Go.LX

variable {P : Program} {σ : St}

theorem ARs.app {w : World} {I : Nat → Prop} : ∀ {as bs : List SA} {us vs : List Value} {L M : List Nat} {B C : List (Nat × Nat × Nat)}, ARs w I as us L B → ARs w I bs vs M C → ARs w I (as ++ bs) (us ++ vs) (L ++ M) (B ++ C)
  | [], _, [], _, _, _, _, _, h, h' => by obtain ⟨rfl, rfl⟩ := h; exact h'
  | a :: as, _, u :: us, _, _, _, _, _, h, h' => by
    obtain ⟨L1, L2, B1, B2, rfl, rfl, h1, h2⟩ := h
    exact ⟨L1, L2 ++ _, B1, B2 ++ _, List.append_assoc .., List.append_assoc .., h1, h2.app h'⟩
  | [], _, _ :: _, _, _, _, _, _, h, _ => h.elim
  | _ :: _, _, [], _, _, _, _, _, h, _ => h.elim
def capA (caps : List (Σ t : Ty, t.T)) : List SA := caps.map fun c => .pd c.1 c.2
theorem capA_ok {w : World} {I S : Nat → Prop} (hS : ∀ b, I b → S b) : ∀ {caps : List (Σ t : Ty, t.T)} {vs : List Value}, All2 (fun c v => PD w I c.1 c.2 0 v) caps vs → ARs w S (capA caps) vs [] []
  | [], [], _ => ⟨rfl, rfl⟩
  | c :: cs, v :: vs, h => ⟨[], [], [], [], rfl, rfl, ⟨rfl, rfl, h.1.kept hS fun _ _ _ => rfl⟩, capA_ok hS h.2⟩
  | [], _ :: _, h => h.elim
  | _ :: _, [], h => h.elim
theorem run_callVal {o : Oper} {f : FuncId} {x : Operand} {xs : List Operand} {tys : Array TypeId} {vs : List Value} (ho : o.op = .call { callee := .value x, args := xs.toArray, argTypes := tys }) (hf : fnB P f = true) {tm : Array Value} (hx : Act.eval ⟨tm, []⟩ x = .func (.func f) #[] vs.toArray) (w : World) :
    (execOp (Act.eval ⟨tm, []⟩) o).run P w = .ok (.enter f (xs.map (Act.eval ⟨tm, []⟩) ++ vs).toArray) w := by
  unfold fnB at hf
  split at hf
  · rename_i fn hq
    obtain ⟨h1, h2⟩ := Bool.and_eq_true_iff.1 hf
    have hbn : ¬ fn.body = none := by intro h; rw [h] at h1; cases h1
    have hnm' : ¬ fn.name = "runtime.NumGoroutine" := by simpa using h2
    simp [execOp, ho, resolve, hx, Deferred.ofValue, invoke, callFunc, hq, hnm', hbn]
  · cases hf
/-- A function's value is called, handed data alone. -/
theorem op_callV [Glob] {o : Oper} {d : Option Nat} {f : FuncId} {x : Operand} {xs : List Operand} {tys : Array TypeId} {args post : List SA} {caps : List (Σ t : Ty, t.T)} {res : RS} {id : Nat} {N : St → Prop} (a : Bool) (hF : FnC P f (args ++ capA caps) post res) (ho : o.op = .call { callee := .value x, args := xs.toArray, argTypes := tys }) (hd : o.dst = d) (ht : dstB σ.n d = true) (hf : fnB P f = true)
    (hx : σ.ev x = .one (.sem (clS f caps))) (hargs : dPs a σ.objs args (xs.map σ.ev)) (hcl : (!a || res.cells.all S0.closed) = true) (hid : newR σ.objs d res.cells.length = some id) (hN : N ((enC id res.cells σ).putD d (res.svN id))) : OpW P o N σ := by
  intro K w I g tm hi
  obtain ⟨_, vs, hvx, hcap⟩ : Sem0 (clS f caps) ∧ clS f caps w I (Act.eval ⟨tm, []⟩ x) := (hi.ev_one hx).1
  rw [run_callVal ho hf hvx]
  simp only [Oper.upon]
  have hS : ∃ S : Nat → Prop, (∀ b, S b → b < w.heap.size) ∧ (∀ b, I b → S b) ∧ (a = true → ∀ o b, b ∈ g.L o → S b) ∧ (a = false → S = I) := by
    cases a with
    | true => exact ⟨fun b => b < w.heap.size, fun _ h => h, fun b hb => (hi.immX b hb).1, fun _ o b hb => hi.ob_lt hb, (fun h => by cases h)⟩
    | false => exact ⟨I, fun b hb => (hi.immX b hb).1, fun _ h => h, (fun h => by cases h), fun _ => rfl⟩
  obtain ⟨S, hS1, hS2, hS3, hS4⟩ := hS
  refine (hF w S _ [] [] ⟨hS1, hi.glob.kept hS2 fun _ _ _ => rfl⟩ ((dPs_ok hi hS2 hS3 hargs).app (capA_ok hS2 hcap)) (by simp) (fun b hb => by simp at hb)).mono ?_
  rintro e w' ⟨v, rfl, hfc, I', L', Lr, hI1, hI2, hpost, hres, hnd, hown⟩
  have hgr : Grow w w' fun _ => False := ⟨hfc.os, hfc.tape, hfc.output, hfc.size, fun b hb _ => hfc.old b hb (by simp) (by simp)⟩
  have hi1 := hi.scrib hgr fun _ h => h.elim
  obtain ⟨_, hnr, _⟩ := List.nodup_append.1 hnd
  have key : ∃ I2, Inv K w' I2 g σ tm ∧ RR0 w' I2 res v Lr ∧ ∀ b ∈ Lr, Free K I2 g b := by
    have hnew : ∀ b ∈ Lr, ¬ I' b ∧ w.heap.size ≤ b := fun b hb => by
      obtain ⟨q1, _, _, q4⟩ := hown b (by simp [hb])
      exact ⟨q1, Nat.le_of_not_lt fun hlt => by have := q4 hlt; simp at this⟩
    cases a with
    | true =>
      refine ⟨I, hi1, ⟨hres.1, hres.2.free (by simpa using hcl)⟩, fun b hb => free_new hi (hnew b hb).2⟩
    | false =>
      have hSI := hS4 rfl
      subst hSI
      refine ⟨I', hi1.widen hI1 fun b hb => ?_, hres, fun b hb => ?_⟩
      · obtain ⟨q1, q2⟩ := hI2 b hb
        by_cases hlt : b < w.heap.size
        · rcases q2 hlt with h | h
          · exact .inl h
          · simp at h
        · exact .inr ⟨free_new hi (Nat.le_of_not_lt hlt), q1⟩
      · obtain ⟨q1, q2⟩ := hnew b hb
        have := free_new hi q2
        exact ⟨q1, this.l, this.m⟩
  obtain ⟨I2, hi2, hr2, hf2⟩ := key
  obtain ⟨g', hfin⟩ := hi2.res hr2 hnr hf2 (newR_ok hid) ht
  cases d with
  | none => simp only [Act.put, hd]; exact ⟨trivial, _, _, _, hN, hfin⟩
  | some t => simp only [Act.put, hd]; exact ⟨trivial, _, _, _, hN, hfin⟩
theorem callV [Glob] {o : Oper} {d : Option Nat} {f : FuncId} {x : Operand} {xs : List Operand} {tys : Array TypeId} {args post : List SA} {caps : List (Σ t : Ty, t.T)} {res : RS} {id : Nat} {N : St → Prop} (a : Bool) (hF : FnC P f (args ++ capA caps) post res) (ho : o.op = .call { callee := .value x, args := xs.toArray, argTypes := tys }) (hd : o.dst = d) (ht : dstB σ.n d = true) (hf : fnB P f = true)
    (hx : σ.ev x = .one (.sem (clS f caps))) (hargs : dPs a σ.objs args (xs.map σ.ev)) (hcl : (!a || res.cells.all S0.closed) = true) (hid : newR σ.objs d res.cells.length = some id) (hN : N (σ.over (dstU d (res.svN id)) (obL id res.cells))) : OpW P o N σ :=
  op_callV a hF ho hd ht hf hx hargs hcl hid (by rw [enC_over, putD_over]; exact hN)

/-! ### Boxes that stand fixed -/
def fxC (o : Nat) (t : Ty) (x : t.T) : C → C
  | .rf o' (.pb c) => bif Nat.beq o' o then .pd t x c else .rf o' (.pb c)
  | .rf o' r => bif Nat.beq o' o then .any else .rf o' r
  | .fc fn caps => bif memH caps o then .any else .fc fn caps
  | c => c
def fxS (o : Nat) (t : Ty) (x : t.T) : SV → SV
  | .one c => .one (fxC o t x c)
  | .ag cs => .ag (cs.map (fxC o t x))
  | .tu xs => .tu (xs.map fun y => (y.1, y.2.map (fxC o t x)))
  | .un => .un
def fxB (o : Nat) (t : Ty) (x : t.T) : Ob → Ob
  | .cells cs => .cells (cs.map (fxC o t x))
  | q => q
/-- The box o stands fixed and holds x. -/
def St.fix (σ : St) (o : Nat) (t : Ty) (x : t.T) : St :=
  ⟨σ.n, fun s => fxS o t x (σ.slots s), fun o' => bif Nat.beq o' o then some .dead else match σ.objs o' with
    | some q => some (fxB o t x q)
    | none => none⟩
theorem fxS_cells {o : Nat} {t : Ty} {x : t.T} {s : SV} : (fxS o t x s).cells = s.cells.map (fxC o t x) := by
  cases s with
  | one c => rfl
  | ag cs => rfl
  | un => rfl
  | tu xs =>
    simp only [fxS, SV.cells]
    induction xs with
    | nil => rfl
    | cons x xs ih => simp [ih]
theorem fxS_shape {o : Nat} {t : Ty} {x : t.T} {s : SV} {u : Value} (h : ShapeOK s u) : ShapeOK (fxS o t x s) u := by
  cases s with
  | one c => exact h
  | ag cs => show AggOK (cs.map _).length u; rw [List.length_map]; exact h
  | un => trivial
  | tu xs =>
    obtain ⟨vs, e, h⟩ := h
    refine ⟨vs, e, ?_⟩
    clear e
    induction xs generalizing vs with
    | nil => exact h
    | cons x xs ih =>
      cases vs with
      | nil => exact h.elim
      | cons v vs => exact ⟨by have := h.1; simpa using this, ih vs h.2⟩
theorem Wk_fix [Glob] {o : Nat} {t : Ty} {x : t.T} {cs : List C} (hq : σ.objs o = some (.cells cs)) (ho : 1000 ≤ o) (hm : mkT σ.objs t cs = some x) : Wk σ (σ.fix o t x) := by
  intro K w I g tm hi
  obtain ⟨hL, hbx⟩ := hi.cells hq
  have hb : (g.addr o).1 ∈ g.L o := by rw [hL]; simp
  have hcell : ∀ (j : Nat) (c : C), cs[j]? = some c → ∃ v, w.cell? ⟨(g.addr o).1, (g.addr o).2 + j, none⟩ = some v ∧ v.oneCell' = true ∧ CR w I g σ.objs c v := fun j c hj => by
    obtain ⟨v, h1, _, h3, _, h5⟩ := hbx j c hj
    exact ⟨v, h1, h3, h5⟩
  obtain ⟨us, hul, hus⟩ := agg_of hcell cs.length (Nat.le_refl _)
  have hrt : RT w I t x us := mkT_ok hi hm hul fun j c hj => by
    have hlt : j < us.length := by rw [hul]; exact (List.getElem?_eq_some_iff.1 hj).1
    obtain ⟨_, _, c', q1, q2⟩ := hus j us[j] (List.getElem?_eq_getElem hlt)
    rw [hj] at q1
    cases q1
    exact ⟨_, List.getElem?_eq_getElem hlt, q2⟩
  have hmine : K.mine (g.addr o).1 := by
    rcases (hi.own o _ hb).2.2 with h | ⟨a, ha, _⟩
    · exact h
    · exact absurd ha ((hi.noE' ho).1 a)
  have hI : ∀ b, I b → (I b ∨ b = (g.addr o).1) ∧ ∀ fo, w.cell? ⟨b, fo, none⟩ = w.cell? ⟨b, fo, none⟩ := fun b h => ⟨.inl h, fun _ => rfl⟩
  have hpd : ∀ c, PD w (fun b => I b ∨ b = (g.addr o).1) t x c (.pointer (some ⟨(g.addr o).1, (g.addr o).2 + c, none⟩)) := fun c =>
    ⟨(g.addr o).1, (g.addr o).2, us, rfl, ⟨.inr rfl, fun j u hu => (hus j u hu).1⟩, hrt.sub fun _ h => .inl h⟩
  let g' : Gh := ⟨g.addr, g.base, fun y => bif Nat.beq y o then [] else g.L y⟩
  have hLne : ∀ {y : Nat}, y ≠ o → g'.L y = g.L y := fun h => by show (bif Nat.beq _ o then [] else _) = _; rw [beq_ne h]; rfl
  have hLo : g'.L o = [] := by show (bif Nat.beq o o then [] else _) = _; rw [Nat.beq_refl]; rfl
  have hobo : (σ.fix o t x).objs o = some .dead := by show (bif Nat.beq o o then _ else _) = _; rw [Nat.beq_refl]; rfl
  have hobn : ∀ {y : Nat}, y ≠ o → (σ.fix o t x).objs y = (match σ.objs y with | some q => some (fxB o t x q) | none => none) := fun h => by show (bif Nat.beq _ o then _ else _) = _; rw [beq_ne h]; rfl
  have hsee : ∀ {y : Nat} {r : Rf} {u : Value}, y ≠ o → seeO w I (g.addr y) (g.base y) (g.L y) (σ.objs y) r u → seeO w (fun b => I b ∨ b = (g.addr o).1) (g'.addr y) (g'.base y) (g'.L y) ((σ.fix o t x).objs y) r u := by
    intro y r u hy h
    have hk := hi.keepX (w' := w) (I' := fun b => I b ∨ b = (g.addr o).1) (g' := g) (ob' := σ.objs) (x := y) hI (fun _ _ => rfl) rfl rfl rfl rfl r u h
    rw [hLne hy, hobn hy]
    cases hq' : σ.objs y with
    | none => rw [hq'] at h; exact h.elim
    | some q =>
      rw [hq'] at hk
      cases q with
      | cells cs' => exact see_cells (by simp) hk
      | _ => exact hk
  have hcr : ∀ {c : C} {u : Value}, CR w I g σ.objs c u → CR w (fun b => I b ∨ b = (g.addr o).1) g' (σ.fix o t x).objs (fxC o t x c) u := by
    intro c u h
    cases c with
    | d t x => exact RT.kept (fun _ h => .inl h) (fun _ _ _ => rfl) h
    | rf y r =>
      by_cases ey : y = o
      · subst ey
        have h' : seeO w I (g.addr y) (g.base y) (g.L y) (σ.objs y) r u := h
        rw [hq] at h'
        cases r with
        | pb c =>
          have hu : u = .pointer (some ⟨(g.addr y).1, (g.addr y).2 + c, none⟩) := h'
          subst hu
          simp only [fxC, Nat.beq_refl, cond_true]
          exact hpd c
        | _ => simp only [fxC, Nat.beq_refl, cond_true]; trivial
      · have : fxC o t x (.rf y r) = .rf y r := by cases r <;> simp [fxC, beq_ne ey]
        rw [this]
        exact hsee ey h
    | pd t x j => exact PD.kept h (fun _ h => .inl h) (fun _ _ _ => rfl)
    | pa t xs => exact PA.kept h (fun _ h => .inl h) (fun _ _ _ => rfl)
    | fc fn caps =>
      cases hmm : memH caps o with
      | true => simp only [fxC, hmm, cond_true]; trivial
      | false =>
        simp only [fxC, hmm, cond_false]
        obtain ⟨vs, e, ha⟩ := h
        refine ⟨vs, e, ha.mono fun y hy v hv => hsee (fun e => ?_) hv⟩
        subst e
        have := memH_iff.2 hy
        rw [hmm] at this; cases this
    | sem φ => exact ⟨h.1, h.1 _ _ _ _ _ (fun _ h => .inl h) (fun _ _ _ => rfl) h.2⟩
    | nl => exact h
    | np => exact h
    | ni => exact h
    | z => exact h
    | val v => exact h
    | any => trivial
  refine ⟨fun b => I b ∨ b = (g.addr o).1, g', {
    fr := hi.fr
    size := hi.size
    glob := hi.glob.kept (fun _ h => .inl h) (fun _ _ _ => rfl)
    imm0 := fun b hb => .inl (hi.imm0 b hb)
    immX := fun b hb => by
      rcases hb with hb | rfl
      · exact hi.immX b hb
      · exact ⟨hi.ob_lt hb, fun hlt => .inr (hmine hlt)⟩
    dis := fun y z b h1 h2 => by
      by_cases ey : y = o
      · subst ey; rw [hLo] at h1; simp at h1
      · by_cases ez : z = o
        · subst ez; rw [hLo] at h2; simp at h2
        · rw [hLne ey] at h1; rw [hLne ez] at h2; exact hi.dis y z b h1 h2
    nod := fun y => by
      by_cases ey : y = o
      · subst ey; rw [hLo]; exact List.nodup_nil
      · rw [hLne ey]; exact hi.nod y
    own := fun y b hb' => by
      by_cases ey : y = o
      · subst ey; rw [hLo] at hb'; simp at hb'
      · rw [hLne ey] at hb'
        obtain ⟨q1, q2, q3⟩ := hi.own y b hb'
        refine ⟨fun h => h.elim q1 fun e => ?_, q2, q3⟩
        subst e
        exact ey (hi.dis y o _ hb' hb)
    ext := fun y a hy => by
      obtain ⟨q1, q2⟩ := hi.ext y a hy
      refine ⟨q1, fun q hq' => ?_⟩
      have ey : y ≠ o := by omega
      rw [hobn ey] at hq'
      cases hqy : σ.objs y with
      | none => rw [hqy] at hq'; cases hq'
      | some p =>
        rw [hqy] at hq'
        cases hq'
        obtain ⟨r1, r2, r3, cs', rfl⟩ := q2 p hqy
        exact ⟨r1, r2, r3, _, rfl⟩
    exB := fun y v hy => by
      obtain ⟨q1, q2⟩ := hi.exB y v hy
      refine ⟨q1, fun q hq' => ?_⟩
      have ey : y ≠ o := by omega
      rw [hobn ey] at hq'
      cases hqy : σ.objs y with
      | none => rw [hqy] at hq'; cases hq'
      | some p => exact q2 p hqy
    obj := fun y => by
      by_cases ey : y = o
      · subst ey; unfold ObR; rw [hobo]; exact hLo
      · have hob := hi.obj y
        unfold ObR at hob ⊢
        rw [hobn ey]
        cases hqy : σ.objs y with
        | none => rw [hqy] at hob; show g'.L y = []; rw [hLne ey]; exact hob
        | some p =>
          rw [hqy] at hob
          cases p with
          | dead => show g'.L y = []; rw [hLne ey]; exact hob
          | cells cs' =>
            obtain ⟨b1, b2⟩ := hob
            refine ⟨by rw [hLne ey]; exact b1, fun j c hj => ?_⟩
            simp only [List.getElem?_map, Option.map_eq_some_iff] at hj
            obtain ⟨c0, hc0, rfl⟩ := hj
            obtain ⟨u, u1, u2, u3, u4, u5⟩ := b2 j c0 hc0
            exact ⟨u, u1, u2, u3, u4, hcr u5⟩
          | rows e t' dp xs => show OA w _ dp e t' xs (g.base y) (g'.L y); rw [hLne ey]; exact OA.kept hob (fun _ h => .inl h) (fun _ _ _ => rfl) (fun _ _ => rfl)
          | fz t' dp xs => exact ⟨by rw [hLne ey]; exact hob.1, RT.kept (fun _ h => .inl h) (fun _ _ _ => rfl) hob.2⟩
    shape := fun s => fxS_shape (hi.shape s)
    slot := fun s i c hc => by
      have hc : ((fxS o t x (σ.slots s)).cells)[i]? = some c := hc
      rw [fxS_cells] at hc
      simp only [List.getElem?_map, Option.map_eq_some_iff] at hc
      obtain ⟨c0, hc0, rfl⟩ := hc
      obtain ⟨u, u1, u2⟩ := hi.slot s i c0 hc0
      exact ⟨u, u1, hcr u2⟩ }⟩

/-! ### Function values are made -/
def capC : List SV → Option (List (Σ t : Ty, t.T))
  | [] => some []
  | .one (.pd t x 0) :: r => match capC r with
    | some cs => some (⟨t, x⟩ :: cs)
    | none => none
  | _ :: _ => none
theorem capC_ok [Glob] {K : Ctx} {w : World} {I : Nat → Prop} {g : Gh} {tm : Array Value} (hi : Inv K w I g σ tm) : ∀ {xs : List Operand} {caps : List (Σ t : Ty, t.T)}, capC (xs.map σ.ev) = some caps → All2 (fun c v => PD w I c.1 c.2 0 v) caps (xs.map (Act.eval ⟨tm, []⟩))
  | [], caps, h => by cases h; trivial
  | x :: xs, caps, h => by
    simp only [List.map_cons] at h
    unfold capC at h
    split at h
    · rename_i e; cases e
    · rename_i t y r e
      simp only [List.cons.injEq] at e
      obtain ⟨e1, rfl⟩ := e
      split at h
      · rename_i cs h2
        cases h
        exact ⟨(hi.ev_one e1).1, capC_ok hi h2⟩
      · cases h
    · cases h
theorem op_mkFn [Glob] {o : Oper} {t : Nat} {f : FuncId} {xs : List Operand} {caps : List (Σ t : Ty, t.T)} {N : St → Prop} (ho : o.op = .makeFunc (.func f) #[] xs.toArray) (hd : o.dst = some t) (ht : Nat.blt t σ.n = true) (hc : capC (xs.map σ.ev) = some caps) (hN : N (σ.over [(t, .one (.sem (clS f caps)))] [])) : OpW P o N σ := by
  refine OpW_put (s := .one (.sem (clS f caps))) hd ht (fun K w I g tm hi => ?_) hN
  refine ⟨.func (.func f) #[] (xs.map (Act.eval ⟨tm, []⟩)).toArray, by simp [execOp, ho, Instr.makeFunc], shape_one rfl ?_⟩
  exact ⟨clS_kept, _, rfl, capC_ok hi hc⟩
end Go.LX
