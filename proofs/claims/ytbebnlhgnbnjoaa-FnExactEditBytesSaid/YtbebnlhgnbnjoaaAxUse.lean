/- The call of a function that is known. -/
import Derived.Test.YtbebnlhgnbnjoaaAxFn
namespace Go.AX

variable {P : Program} {σ : St}

theorem CR.wider {w : World} {I I' : Nat → Prop} {g g' : Gh} {tm : Array Value} {pl : Pl} {c : C} {u : Value} (h : CR w I g σ tm pl c u) (hI : ∀ b, I b → I' b) (ha : g'.addr = g.addr) (hL : ∀ p b, b ∈ g.L p → b ∈ g'.L p) (hp : c.isOw = true → g'.L pl = g.L pl) : CR w I' g' σ tm pl c u := by
  have hre : ∀ p, realAt w g' tm p = realAt w g tm p := fun p => by unfold realAt; rw [ha]
  cases c with
  | d x => exact Rd.sub h hI
  | ow e size k rs =>
    show ROT (RO w I' k) w I' e.ty size rs u (g'.L pl) ∧ _
    rw [hp rfl]
    exact ⟨ROT.kept h.1 hI (fun _ _ _ => rfl) fun _ _ => rfl, h.2⟩
  | vw p wh rs => exact ⟨h.1.sub fun b hb => hb.imp (hI b) (hL p b), fun hw => by rw [hre]; exact h.2 hw⟩
  | bp o c => exact ⟨by rw [ha]; exact h.1, h.2⟩
  | ep p i j =>
    obtain ⟨b, n, cap, e, size, k, rs, h1, h2, h3, h4⟩ := h
    exact ⟨b, n, cap, e, size, k, rs, by rw [hre]; exact h1, h2, h3, h4⟩
  | fc fn caps =>
    obtain ⟨vs, h1, h2⟩ := h
    exact ⟨vs, h1, h2.mono fun o _ v hv => ⟨by rw [ha]; exact hv.1, hv.2⟩⟩
  | nl => exact h
  | vp p cs => exact Rd.sub h fun b hb => hb.imp (hI b) (hL p b)
  | any => trivial

def C.resB : C → Bool
  | .d _ | .nl | .ow .. | .any => true
  | _ => false

/-- A result comes into slot t. -/
theorem Inv.result {K : Ctx} {w w' : World} {I : Nat → Prop} {g : Gh} {tm : Array Value} (hi : Inv K w I g σ tm) (hw : Go.RowKit.Below w.heap.size w w') {t : Nat} (ht : t < σ.n) (h0 : (σ.slots t).noOw = true) {r : SV} {v : Value} {J : Nat → Prop} {L : Nat → List Nat}
    (hJ : ∀ b, J b → b < w'.heap.size ∧ (b < w.heap.size → I b)) (h1 : ∀ i j b, b ∈ L i → b ∈ L j → i = j) (h2 : ∀ i, (L i).Nodup) (h3 : ∀ i b, b ∈ L i → ¬ J b ∧ w.heap.size ≤ b ∧ b < w'.heap.size) (hs : ShapeOK r v)
    (hc : ∀ (i : Nat) (c : C), r.cells[i]? = some c → ∃ u, (valCells v)[i]? = some u ∧ ResR w' J (L i) c u) :
    Inv K w' (fun b => I b ∨ J b) { g with L := fun p => if p.box = false ∧ p.id = t then (match r.cells[p.c]? with | some (.ow ..) => L p.c | _ => []) else g.L p } (σ.put t r) (tm.setIfInBounds t v) := by
  have hg := hi.grow hw
  have hlt : t < tm.size := by rw [hi.size]; exact ht
  have hget : (tm.setIfInBounds t v).getD t undef = v := by simp [Array.getD_eq_getD_getElem?, hlt]
  have hoth : ∀ t', t' ≠ t → (tm.setIfInBounds t v).getD t' undef = tm.getD t' undef := fun t' hne => by simp [Array.getD_eq_getD_getElem?, Ne.symm hne]
  let g' : Gh := { g with L := fun p => if p.box = false ∧ p.id = t then (match r.cells[p.c]? with | some (.ow ..) => L p.c | _ => []) else g.L p }
  have hL0 : ∀ p : Pl, p.box = false ∧ p.id = t → g.L p = [] := by
    rintro p ⟨hb, hid⟩
    refine hi.nil p fun e size k rs hh => ?_
    have := absAt_put h0 hh
    rcases this with h | h
    · rw [hb] at h; cases h
    · exact h hid
  have hLsub : ∀ p b, b ∈ g.L p → b ∈ g'.L p := by
    intro p b hb
    by_cases hp : p.box = false ∧ p.id = t
    · rw [hL0 p hp] at hb; cases hb
    · show b ∈ (if p.box = false ∧ p.id = t then _ else g.L p)
      rw [if_neg hp]; exact hb
  have hLmem : ∀ p b, b ∈ g'.L p → (b ∈ g.L p) ∨ (p.box = false ∧ p.id = t ∧ b ∈ L p.c) := by
    intro p b hb
    by_cases hp : p.box = false ∧ p.id = t
    · right
      have hb' : b ∈ (match r.cells[p.c]? with | some (.ow ..) => L p.c | _ => []) := by
        have : g'.L p = (match r.cells[p.c]? with | some (.ow ..) => L p.c | _ => []) := if_pos hp
        rw [this] at hb; exact hb
      refine ⟨hp.1, hp.2, ?_⟩
      split at hb'
      · exact hb'
      · cases hb'
    · left
      have : g'.L p = g.L p := if_neg hp
      rw [this] at hb; exact hb
  have hCR : ∀ pl c u, ¬ (pl.box = false ∧ pl.id = t) → CR w' I g σ tm pl c u → CR w' (fun b => I b ∨ J b) g' (σ.put t r) (tm.setIfInBounds t v) pl c u := by
    intro pl c u hpl hcr
    exact (hcr.put h0).wider (fun _ h => .inl h) rfl hLsub (fun _ => if_neg hpl)
  exact {
    fr := hg.fr
    size := by simpa [St.put] using hi.size
    imm0 := fun b hb => .inl (hi.imm0 b hb)
    immX := fun b hb => by
      rcases hb with hb | hb
      · exact hg.immX b hb
      · refine ⟨(hJ b hb).1, fun hlt0 => ?_⟩
        have : b < w.heap.size := Nat.lt_of_lt_of_le hlt0 hi.fr.size
        exact (hi.immX b ((hJ b hb).2 this)).2 hlt0
    dis := fun p q b hp hq => by
      rcases hLmem p b hp with hp | ⟨p1, p2, p3⟩ <;> rcases hLmem q b hq with hq | ⟨q1, q2, q3⟩
      · exact hi.dis p q b hp hq
      · have := (hi.own p b hp).2.1; have := (h3 _ b q3).2.1; omega
      · have := (hi.own q b hq).2.1; have := (h3 _ b p3).2.1; omega
      · have := h1 _ _ b p3 q3
        cases p; cases q; simp_all
    nod := fun p => by
      by_cases hp : p.box = false ∧ p.id = t
      · simp only [hp, and_self, if_true]
        split
        · exact h2 _
        · exact List.nodup_nil
      · simp only [hp, if_false]; exact hi.nod p
    own := fun p b hb => by
      rcases hLmem p b hb with hb | ⟨_, _, hb⟩
      · obtain ⟨o1, o2, o3⟩ := hi.own p b hb
        exact ⟨fun hh => hh.elim o1 fun hj => o1 ((hJ b hj).2 o2), Nat.lt_of_lt_of_le o2 hw.size, o3⟩
      · obtain ⟨o1, o2, o3⟩ := h3 _ b hb
        refine ⟨fun hh => hh.elim (fun hI => ?_) o1, o3, fun hlt0 => ?_⟩
        · have := (hi.immX b hI).1; omega
        · have := hi.fr.size; omega
    nil := fun p hp => by
      by_cases hpt : p.box = false ∧ p.id = t
      · simp only [hpt, and_self, if_true]
        have hab : (σ.put t r).absAt p = r.cells[p.c]? := by
          unfold St.absAt
          rw [hpt.1, hpt.2, if_neg (by simp), St.put_same]
        split
        · rename_i e size k rs he
          exact absurd (hab.trans he) (hp e size k rs)
        · rfl
      · simp only [hpt, if_false]
        refine hi.nil p fun e size k rs hh => hp e size k rs ?_
        rw [absAt_put_other (absAt_put h0 hh)]; exact hh
    boxd := hi.boxd
    boxi := fun o ho => by
      obtain ⟨b1, b2, b3, b4⟩ := hi.boxi o ho
      refine ⟨fun hh => hh.elim b1 fun hj => b1 ((hJ _ hj).2 b3), fun p hp => ?_, Nat.lt_of_lt_of_le b3 hw.size, b4⟩
      rcases hLmem p _ hp with hp | ⟨_, _, hp⟩
      · exact b2 p hp
      · exact absurd b3 (Nat.not_lt.2 (h3 _ _ hp).2.1)
    boxc := fun o cs ho j c hj => by
      obtain ⟨u, e1, e2, e3, e4, e5⟩ := hg.boxc o cs ho j c hj
      exact ⟨u, e1, e2, e3, e4, hCR _ _ _ (by simp) e5⟩
    shape := fun t' => by
      by_cases e : t' = t
      · subst e; rw [St.put_same, hget]; exact hs
      · rw [St.put_other _ _ _ _ e, hoth t' e]; exact hi.shape t'
    slot := fun t' i c hi' => by
      by_cases e : t' = t
      · subst e
        rw [St.put_same] at hi'
        rw [hget]
        obtain ⟨u, hu, hr⟩ := hc i c hi'
        refine ⟨u, hu, ?_⟩
        cases c with
        | d x => exact Rd.sub hr fun b hb => .inr hb
        | nl => exact hr
        | ow e size k rs =>
          have : g'.L ⟨false, t', i⟩ = L i := by
            show (if false = false ∧ t' = t' then (match r.cells[i]? with | some (.ow ..) => L i | _ => []) else _) = _
            rw [if_pos ⟨rfl, rfl⟩, hi']
          show ROT _ _ _ _ _ _ _ (g'.L ⟨false, t', i⟩) ∧ _
          rw [this]
          exact ⟨ROT.kept hr.1 (fun b hb => .inr hb) (fun _ _ _ => rfl) fun _ _ => rfl, fun v hv => by rw [hr.2] at hv; cases hv⟩
        | any => trivial
        | vw p wh rs => exact hr.elim
        | bp o c => exact hr.elim
        | ep p i j => exact hr.elim
        | fc fn caps => exact hr.elim
        | vp p cs => exact hr.elim
      · rw [St.put_other _ _ _ _ e] at hi'
        rw [hoth t' e]
        obtain ⟨u, hu, hr⟩ := hg.slot t' i c hi'
        exact ⟨u, hu, hCR _ _ _ (fun hh => e hh.2) hr⟩ }

theorem run_callFn {o : Oper} {f : FuncId} {xs : List Operand} {tys : Array TypeId} {fn : Func} (ho : o.op = .call { callee := .value (.func f), args := xs.toArray, argTypes := tys }) (hf : P.funcs[f]? = some fn) (hb : fn.body.isSome = true) (hnm : (fn.name == "runtime.NumGoroutine") = false) (tm : Array Value) (w : World) :
    (execOp (Act.eval ⟨tm, []⟩) o).run P w = .ok (.enter f (xs.map (Act.eval ⟨tm, []⟩)).toArray) w := by
  have hbn : ¬ fn.body = none := by intro h; rw [h] at hb; cases hb
  have hnm' : ¬ fn.name = "runtime.NumGoroutine" := by simpa using hnm
  have hev : Act.eval ⟨tm, []⟩ (.func f) = .func (.func f) #[] #[] := rfl
  simp [execOp, ho, resolve, hev, Deferred.ofValue, invoke, callFunc, hf, hnm', hbn]

theorem args_all {w : World} {S : Nat → Prop} {ev : Operand → Value} {σ : St} : ∀ {xs : List Operand} {args : List (Bool × List D)}, xs.mapM (fun x => (σ.evv x).toA) = some args → (∀ x ∈ xs, ∀ a, (σ.evv x).toA = some a → argR w S a (ev x)) → All2 (argR w S) args (xs.map ev)
  | [], args, h, _ => by simp at h; subst h; trivial
  | x :: xs, args, h, hx => by
    rw [List.mapM_cons] at h
    cases h1 : (σ.evv x).toA with
    | none => simp [h1] at h
    | some a =>
      cases h2 : xs.mapM (fun x => (σ.evv x).toA) with
      | none => simp [h1, h2] at h
      | some as =>
        simp [h1, h2] at h
        subst h
        exact ⟨hx x (by simp) a h1, args_all h2 fun y hy => hx y (by simp [hy])⟩

/-- A call whose result is its own. -/
theorem op_call {o : Oper} {t : Nat} {f : FuncId} {xs : List Operand} {tys : Array TypeId} {fn : Func} {args : List (Bool × List D)} {r : SV} {N : St → Prop} (ho : o.op = .call { callee := .value (.func f), args := xs.toArray, argTypes := tys }) (hd : o.dst = some t) (ht : Nat.blt t σ.n = true) (h0 : (σ.slots t).noOw = true)
    (hf : P.funcs[f]? = some fn) (hb : fn.body.isSome = true) (hnm : (fn.name == "runtime.NumGoroutine") = false) (hargs : xs.mapM (fun x => (σ.evv x).toA) = some args) (hF : FnOK P f false args r) (hN : N (σ.put t r)) : OpW P o N σ := by
  intro K w I g tm hi
  rw [run_callFn ho hf hb hnm]
  simp only [Oper.upon]
  refine (hF w (fun b => b < w.heap.size) _ (fun _ h => h) (args_all hargs fun x _ a ha => argR_of hi ha fun pl c u d _ hcr hcd => hcr.toD hi hcd)).mono ?_
  rintro e w' ⟨v, rfl, hw, J, L, hJ, h1, h2, h3, hs, hc⟩
  simp only [Act.put, hd]
  exact ⟨trivial, _, _, _, hN, hi.result hw (Nat.le_of_ble_eq_true ht) h0 (fun b hb => ⟨(hJ b hb).1, fun hlt => absurd ((hJ b hb).2 hlt).1 (by simp)⟩) h1 h2 h3 hs hc⟩

def C.imB : C → Bool
  | .d _ | .nl => true
  | _ => false
/-- A call that may hand back what it was handed: all of it is read alone. -/
theorem op_call_al {o : Oper} {t : Nat} {f : FuncId} {xs : List Operand} {tys : Array TypeId} {fn : Func} {args : List (Bool × List D)} {r : SV} {N : St → Prop} (ho : o.op = .call { callee := .value (.func f), args := xs.toArray, argTypes := tys }) (hd : o.dst = some t) (ht : Nat.blt t σ.n = true) (h0 : (σ.slots t).noOw = true)
    (hf : P.funcs[f]? = some fn) (hb : fn.body.isSome = true) (hnm : (fn.name == "runtime.NumGoroutine") = false) (hargs : xs.mapM (fun x => (σ.evv x).toA) = some args) (him : ∀ x ∈ xs, (σ.evv x).cells.all C.imB = true) {al : Bool} (hF : FnOK P f al args r) (hN : N (σ.put t r)) : OpW P o N σ := by
  intro K w I g tm hi
  rw [run_callFn ho hf hb hnm]
  simp only [Oper.upon]
  refine (hF w I _ (fun b hb => (hi.immX b hb).1) (args_all hargs fun x hx a ha => argR_of hi ha fun pl c u d hcm hcr hcd => ?_)).mono ?_
  · have hm := List.all_eq_true.1 (him x hx) c hcm
    cases c with
    | d y => simp [C.toD] at hcd; subst hcd; exact hcr
    | nl => simp [C.toD] at hcd; subst hcd; exact Rd.sl_iff.2 ⟨none, 0, hcr, Nat.le_refl _, Nat.zero_le _, fun i row hr => by simp at hr⟩
    | _ => simp [C.imB] at hm
  · rintro e w' ⟨v, rfl, hw, J, L, hJ, h1, h2, h3, hs, hc⟩
    simp only [Act.put, hd]
    exact ⟨trivial, _, _, _, hN, hi.result hw (Nat.le_of_ble_eq_true ht) h0 (fun b hb => ⟨(hJ b hb).1, fun hlt => ((hJ b hb).2 hlt).2⟩) h1 h2 h3 hs hc⟩

end Go.AX
