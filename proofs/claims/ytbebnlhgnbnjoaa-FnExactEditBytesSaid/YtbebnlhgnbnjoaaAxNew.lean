/- Templates of states; new boxes; stores into boxes. -/
import Derived.Test.YtbebnlhgnbnjoaaAxGhost
namespace Go.AX

variable {P : Program} {σ : St}

def lookS : List (Nat × SV) → Nat → SV
  | [], _ => .un
  | x :: r, t => bif Nat.beq t x.1 then x.2 else lookS r t
def lookB : List (Nat × List C) → Nat → Option (List C)
  | [], _ => none
  | x :: r, o => bif Nat.beq o x.1 then some x.2 else lookB r o
/-- A state by the slots and boxes that still count. -/
def St.tmpl (n : Nat) (ls : List (Nat × SV)) (lb : List (Nat × List C)) : St := ⟨n, lookS ls, lookB lb⟩
def AllS (σ : St) : List (Nat × SV) → Prop
  | [] => True
  | x :: r => σ.slots x.1 = x.2 ∧ AllS σ r
def AllB (σ : St) : List (Nat × List C) → Prop
  | [] => True
  | x :: r => σ.boxes x.1 = some x.2 ∧ AllB σ r
def owAt (σ : St) (p : Pl) : Bool := match σ.absAt p with | some (.ow ..) => true | _ => false
def C.refOK (σ : St) : C → Bool
  | .vw p _ _ | .ep p _ _ | .vp p _ => owAt σ p
  | .bp o _ => (σ.boxes o).isSome
  | .fc _ caps => caps.all fun o => (σ.boxes o).isSome
  | _ => true
def refsOK (σ : St) (ls : List (Nat × SV)) (lb : List (Nat × List C)) : Bool := (ls.all fun x => x.2.cells.all (C.refOK σ)) && (lb.all fun x => x.2.all (C.refOK σ))

theorem lookS_mem {ls : List (Nat × SV)} {t : Nat} (h : lookS ls t ≠ .un) : (t, lookS ls t) ∈ ls := by
  induction ls with
  | nil => exact absurd rfl h
  | cons x r ih =>
    unfold lookS at h ⊢
    cases hb : Nat.beq t x.1 with
    | true =>
      have := Nat.eq_of_beq_eq_true hb
      simp only [cond_true]
      rw [this]
      simp
    | false => simp only [hb, cond_false] at h ⊢; exact List.mem_cons_of_mem _ (ih h)
theorem lookB_mem {lb : List (Nat × List C)} {o : Nat} {cs : List C} (h : lookB lb o = some cs) : (o, cs) ∈ lb := by
  induction lb with
  | nil => cases h
  | cons x r ih =>
    unfold lookB at h
    cases hb : Nat.beq o x.1 with
    | true =>
      have := Nat.eq_of_beq_eq_true hb
      simp only [hb, cond_true] at h
      rw [this, ← Option.some.inj h]
      simp
    | false => simp only [hb, cond_false] at h; exact List.mem_cons_of_mem _ (ih h)
theorem AllS.mem {ls : List (Nat × SV)} (h : AllS σ ls) : ∀ x ∈ ls, σ.slots x.1 = x.2 := by
  induction ls with
  | nil => intro x hx; cases hx
  | cons y r ih =>
    intro x hx
    rcases List.mem_cons.1 hx with rfl | hx
    · exact h.1
    · exact ih h.2 x hx
theorem AllB.mem {lb : List (Nat × List C)} (h : AllB σ lb) : ∀ x ∈ lb, σ.boxes x.1 = some x.2 := by
  induction lb with
  | nil => intro x hx; cases hx
  | cons y r ih =>
    intro x hx
    rcases List.mem_cons.1 hx with rfl | hx
    · exact h.1
    · exact ih h.2 x hx

theorem Wk_tmpl {ls : List (Nat × SV)} {lb : List (Nat × List C)} (h1 : AllS σ ls) (h2 : AllB σ lb) (h3 : refsOK (St.tmpl σ.n ls lb) ls lb = true) : Wk σ (St.tmpl σ.n ls lb) := by
  intro K w I g tm h
  let σ' := St.tmpl σ.n ls lb
  have hsl : ∀ t, σ'.slots t = .un ∨ (σ'.slots t = σ.slots t ∧ ∀ c ∈ (σ'.slots t).cells, c.refOK σ' = true) := by
    intro t
    by_cases hu : lookS ls t = .un
    · exact .inl hu
    · refine .inr ⟨((h1.mem _ (lookS_mem hu))).symm, fun c hc => ?_⟩
      have := (Bool.and_eq_true_iff.1 h3).1
      have := List.all_eq_true.1 this _ (lookS_mem hu)
      exact List.all_eq_true.1 this c hc
  have hbx : ∀ o cs, σ'.boxes o = some cs → σ.boxes o = some cs ∧ ∀ c ∈ cs, c.refOK σ' = true := by
    intro o cs ho
    have hm := lookB_mem ho
    refine ⟨h2.mem _ hm, fun c hc => ?_⟩
    have := (Bool.and_eq_true_iff.1 h3).2
    have := List.all_eq_true.1 this _ hm
    exact List.all_eq_true.1 this c hc
  have hab : ∀ p c, σ'.absAt p = some c → σ.absAt p = some c ∧ c.refOK σ' = true := by
    intro p c hp
    unfold St.absAt at hp ⊢
    split
    · rename_i hb
      rw [if_pos hb] at hp
      cases hq : σ'.boxes p.id with
      | none => rw [hq] at hp; cases hp
      | some cs =>
        rw [hq] at hp
        simp only [Option.bind_some] at hp
        obtain ⟨q1, q2⟩ := hbx _ _ hq
        rw [q1]
        exact ⟨hp, q2 c (List.mem_of_getElem? hp)⟩
    · rename_i hb
      rw [if_neg hb] at hp
      rcases hsl p.id with hu | ⟨q1, q2⟩
      · rw [hu] at hp; simp [SV.cells] at hp
      · rw [← q1]
        exact ⟨hp, q2 c (List.mem_of_getElem? hp)⟩
  have how : ∀ p, owAt σ' p = true → ∃ e size k rs, σ'.absAt p = some (.ow e size k rs) ∧ σ.absAt p = some (.ow e size k rs) := by
    intro p hp
    unfold owAt at hp
    split at hp
    · rename_i e size k rs he
      exact ⟨e, size, k, rs, he, (hab p _ he).1⟩
    · cases hp
  refine ⟨I, { g with L := fun p => if owAt σ' p = true then g.L p else [] }, h.retell rfl rfl ?_ ?_ ?_ (fun _ hb => hb) (fun _ hb => .inl hb) ?_ ?_ ?_ ?_⟩
  · intro t
    rcases hsl t with hu | ⟨q1, _⟩
    · show ShapeOK (σ'.slots t) _
      rw [hu]; trivial
    · show ShapeOK (σ'.slots t) _
      rw [q1]; exact h.shape t
  · intro o ho
    cases hq : σ'.boxes o with
    | none => rw [show (St.tmpl σ.n ls lb).boxes o = none from hq] at ho; cases ho
    | some cs => rw [(hbx o cs hq).1]; rfl
  · intro p c hp
    obtain ⟨q1, q2⟩ := hab p c hp
    refine ⟨c, q1, fun u hu hcr => ?_⟩
    cases c with
    | d x => exact hcr
    | ow e size k rs =>
      have : owAt σ' p = true := by unfold owAt; rw [show σ'.absAt p = _ from hp]
      show ROT _ _ _ _ _ _ _ (if owAt σ' p = true then g.L p else []) ∧ _
      rw [if_pos this]; exact hcr
    | vw q wh rs =>
      have hq : owAt σ' q = true := q2
      refine ⟨by simp only [hq, if_true]; exact hcr.1, fun hw => ?_⟩
      obtain ⟨a1, e, size, k, a2⟩ := hcr.2 hw
      obtain ⟨e', size', k', rs', b1, b2⟩ := how q hq
      rw [a2] at b2
      exact ⟨a1, e, size, k, by rw [show (St.tmpl σ.n ls lb).absAt q = _ from b1]; exact b2.symm⟩
    | bp o c => exact ⟨hcr.1, q2⟩
    | ep q i j =>
      have hq : owAt σ' q = true := q2
      obtain ⟨b, n, cap, e, size, k, rs, a1, a2, a3, a4⟩ := hcr
      obtain ⟨e', size', k', rs', b1, b2⟩ := how q hq
      rw [a2] at b2
      exact ⟨b, n, cap, e, size, k, rs, a1, by rw [show (St.tmpl σ.n ls lb).absAt q = _ from b1]; exact b2.symm, a3, a4⟩
    | fc fn caps =>
      obtain ⟨vs, a1, a2⟩ := hcr
      exact ⟨vs, a1, a2.mono fun o ho v hv => ⟨hv.1, List.all_eq_true.1 q2 o ho⟩⟩
    | nl => exact hcr
    | vp q cs =>
      have hq : owAt σ' q = true := q2
      show Rd _ (fun b => I b ∨ b ∈ (if owAt σ' q = true then g.L q else [])) _ _
      rw [if_pos hq]; exact hcr
    | any => trivial
  · intro p q b hb hb'
    simp only at hb hb'
    split at hb
    · split at hb'
      · exact h.dis p q b hb hb'
      · cases hb'
    · cases hb
  · intro p
    simp only
    split
    · exact h.nod p
    · exact List.nodup_nil
  · intro p b hb
    simp only at hb
    split at hb
    · exact ⟨(h.own p b hb).1, p, hb⟩
    · cases hb
  · intro p hp
    simp only
    split
    · rename_i ho
      obtain ⟨e, size, k, rs, b1, _⟩ := how p ho
      exact absurd b1 (hp e size k rs)
    · rfl

/-- A new box. -/
theorem CR.newBox {K : Ctx} {w : World} {I : Nat → Prop} {g : Gh} {tm : Array Value} (h : Inv K w I g σ tm) {t : Nat} (hb : σ.boxes t = none) {ob : Obj} {cs : List C} {pl : Pl} {c : C} {u : Value} (hc : CR w I g σ tm pl c u) :
    CR (w.alloc ob) I { g with addr := fun o => if o = t then (w.heap.size, 0) else g.addr o } (σ.setBox t cs) tm pl c u := by
  have hw : Go.RowKit.Below w.heap.size w (w.alloc ob) := (Go.RowKit.Below.refl _ _).alloc (Nat.le_refl _) _
  have hc' := hc.grow h hw
  have hsome : ∀ o, (σ.boxes o).isSome = true → o ≠ t := fun o ho e => by subst e; rw [hb] at ho; cases ho
  have hbs : ∀ o, (σ.boxes o).isSome = true → ((σ.setBox t cs).boxes o).isSome = true := fun o ho => by
    simp only [St.setBox, beq_ne (hsome o ho), cond_false]; exact ho
  have hab : ∀ p, σ.absAt p ≠ none → (σ.setBox t cs).absAt p = σ.absAt p ∧ (p.box = true → p.id ≠ t) := by
    intro p hp
    unfold St.absAt at hp ⊢
    split
    · rename_i hbx
      rw [if_pos hbx] at hp
      have : p.id ≠ t := fun e => by rw [e, hb] at hp; exact hp rfl
      simp only [St.setBox, beq_ne this, cond_false]
      exact ⟨trivial, fun _ => this⟩
    · rename_i hbx
      exact ⟨rfl, fun h => absurd h hbx⟩
  have hre : ∀ p v, σ.absAt p ≠ none → realAt (w.alloc ob) g tm p = some v → realAt (w.alloc ob) { g with addr := fun o => if o = t then (w.heap.size, 0) else g.addr o } tm p = some v := by
    intro p v hp hv
    obtain ⟨_, hne⟩ := hab p hp
    unfold realAt at hv ⊢
    split
    · rename_i hbx
      rw [if_pos hbx] at hv
      simp only [hne hbx, if_false]
      exact hv
    · rename_i hbx
      rw [if_neg hbx] at hv
      exact hv
  cases c with
  | d x => exact hc'
  | ow e size k rs => exact hc'
  | vw p wh rs =>
    refine ⟨hc'.1, fun hwh => ?_⟩
    obtain ⟨h1, e, size, k, h2⟩ := hc'.2 hwh
    have hn : σ.absAt p ≠ none := by rw [h2]; simp
    exact ⟨hre p u hn h1, e, size, k, by rw [(hab p hn).1]; exact h2⟩
  | bp o c =>
    refine ⟨?_, hbs o hc.2⟩
    simp only [hsome o hc.2, if_false]
    exact hc.1
  | ep p i j =>
    obtain ⟨b, n, cap, e, size, k, rs, h1, h2, h3, h4⟩ := hc'
    have hn : σ.absAt p ≠ none := by rw [h2]; simp
    exact ⟨b, n, cap, e, size, k, rs, hre p _ hn h1, by rw [(hab p hn).1]; exact h2, h3, h4⟩
  | fc fn caps =>
    obtain ⟨vs, h1, h2⟩ := hc
    refine ⟨vs, h1, h2.mono fun o _ v hv => ⟨?_, hbs o hv.2⟩⟩
    simp only [hsome o hv.2, if_false]
    exact hv.1
  | nl => exact hc'
  | vp p cs => exact hc'
  | any => trivial

theorem Inv.newBox {K : Ctx} {w : World} {I : Nat → Prop} {g : Gh} {tm : Array Value} (h : Inv K w I g σ tm) {t : Nat} (hb : σ.boxes t = none) {e : TypeId} {vs : List Value} {cs : List C}
    (hc : ∀ (i : Nat) (c : C), cs[i]? = some c → c.isOw = false ∧ ∃ u, vs[i]? = some u ∧ u.oneCell' = true ∧ CR w I g σ tm ⟨true, t, i⟩ c u) :
    Inv K (w.alloc (.cells vs.toArray e)) I { g with addr := fun o => if o = t then (w.heap.size, 0) else g.addr o } (σ.setBox t cs) tm := by
  have hw : Go.RowKit.Below w.heap.size w (w.alloc (.cells vs.toArray e)) := (Go.RowKit.Below.refl _ _).alloc (Nat.le_refl _) _
  have hg := h.grow hw
  have hsz : (w.alloc (.cells vs.toArray e)).heap.size = w.heap.size + 1 := by simp
  have hbx : ∀ o, ((σ.setBox t cs).boxes o).isSome = true → o = t ∨ (o ≠ t ∧ (σ.boxes o).isSome = true) := by
    intro o ho
    by_cases e' : o = t
    · exact .inl e'
    · simp only [St.setBox, beq_ne e', cond_false] at ho; exact .inr ⟨e', ho⟩
  have hsome : ∀ o, (σ.boxes o).isSome = true → o ≠ t := fun o ho e => by subst e; rw [hb] at ho; cases ho
  exact {
    fr := hg.fr
    size := h.size
    imm0 := h.imm0
    immX := hg.immX
    dis := h.dis
    nod := h.nod
    own := hg.own
    nil := fun p hp => h.nil p fun e1 s1 k1 rs1 hh => by
      refine hp e1 s1 k1 rs1 ?_
      unfold St.absAt at hh ⊢
      split
      · rename_i hbx'
        rw [if_pos hbx'] at hh
        have : p.id ≠ t := fun e => by rw [e, hb] at hh; cases hh
        simp only [St.setBox, beq_ne this, cond_false]
        exact hh
      · rename_i hbx'
        rw [if_neg hbx'] at hh
        exact hh
    boxd := fun o o' ho ho' he => by
      rcases hbx o ho with e1 | ⟨e1, h1⟩ <;> rcases hbx o' ho' with e2 | ⟨e2, h2⟩
      · rw [e1, e2]
      · simp only [e1, if_true, e2, if_false] at he
        have := (h.boxi o' h2).2.2.1
        omega
      · simp only [e2, if_true, e1, if_false] at he
        have := (h.boxi o h1).2.2.1
        omega
      · simp only [e1, e2, if_false] at he
        exact h.boxd o o' h1 h2 he
    boxi := fun o ho => by
      rcases hbx o ho with rfl | ⟨e1, ho⟩
      · simp only [if_true]
        refine ⟨fun hI => ?_, fun p hp => ?_, by omega, fun hlt => ?_⟩
        · have := (h.immX _ hI).1; omega
        · have := (h.own p _ hp).2.1; omega
        · have := h.fr.size; omega
      · simp only [e1, if_false]
        exact hg.boxi o ho
    boxc := fun o cs' ho j c hj => by
      by_cases e1 : o = t
      · subst e1
        simp only [St.setBox, Nat.beq_refl, cond_true] at ho
        obtain rfl := Option.some.inj ho
        obtain ⟨how, u, hu, h1, hcr⟩ := hc j c hj
        simp only [if_true]
        refine ⟨u, ?_, ?_, h1, fun hlt => ?_, hcr.newBox h hb⟩
        · rw [cell_of_row _ _ _ vs.toArray e (0, 0) (heap_alloc_new w _)]
          simpa using hu
        · unfold World.frozen?
          simp only [heap_alloc_new]
          simp
        · have := h.fr.size; omega
      · simp only [St.setBox, beq_ne e1, cond_false] at ho
        simp only [e1, if_false]
        obtain ⟨u, h1, h2, h3, h4, h5⟩ := hg.boxc o cs' ho j c hj
        obtain ⟨u', h1', _, _, _, h5'⟩ := h.boxc o cs' ho j c hj
        have hlt := (h.boxi o (by rw [ho]; rfl)).2.2.1
        have : u' = u := by
          have := (Below.cellB hw hlt ((g.addr o).2 + j)).symm.trans h1
          rw [h1'] at this; exact Option.some.inj this
        subst this
        exact ⟨u', h1, h2, h3, h4, h5'.newBox h hb⟩
    shape := h.shape
    slot := fun t' i c hi => by
      obtain ⟨u, h1, h2⟩ := h.slot t' i c hi
      exact ⟨u, h1, h2.newBox h hb⟩ }

/-- The cells of a value that is no tuple. -/
def SV.flat : SV → Option (List C)
  | .one c => some [c]
  | .ag cs => some cs
  | _ => none
theorem flat_cells {s : SV} {cs : List C} (h : s.flat = some cs) : s.cells = cs := by
  cases s <;> simp [SV.flat] at h <;> subst h <;> rfl
theorem shape_cells {s : SV} {cs : List C} {u : Value} (h : s.flat = some cs) (hs : ShapeOK s u) : valCells u = u.cells.toList ∧ u.cells.toList.length = cs.length := by
  cases s <;> simp [SV.flat] at h
  · subst h
    have h1 : u.oneCell' = true := hs
    cases u <;> simp_all [valCells, Value.cells, Value.oneCell']
  · subst h
    obtain ⟨us, rfl, hl⟩ := hs
    exact ⟨rfl, by simpa [Value.cells] using hl⟩

theorem CR.one {w : World} {I : Nat → Prop} {g : Gh} {tm : Array Value} {pl : Pl} {c : C} {u : Value} (h : CR w I g σ tm pl c u) (hc : c ≠ .any) : u.oneCell' = true := by
  cases c with
  | d x => exact Rd.oneCell h
  | ow e size k rs =>
    obtain ⟨xs, L', ho, _⟩ := h.1
    rcases ho.2 with ⟨rfl, _⟩ | ⟨g, cap, cur, rfl, _⟩ <;> rfl
  | vw p wh rs => exact Rd.oneCell h.1
  | bp o c => rw [h.1]; rfl
  | ep p i j => obtain ⟨b, n, cap, e, size, k, rs, _, _, _, rfl⟩ := h; rfl
  | fc fn caps => obtain ⟨vs, rfl, _⟩ := h; rfl
  | nl => rw [show u = .slice none 0 0 from h]; rfl
  | vp p cs => exact Rd.oneCell h
  | any => exact absurd rfl hc

def C.known : C → Bool
  | .any => false
  | _ => true
/-- A new box in slot t holds what x holds. -/
theorem op_box {o : Oper} {t : Nat} {e : TypeId} {x : Operand} {s : SV} {cs : List C} {N : St → Prop} (ho : o.op = .box e x) (hd : o.dst = some t) (ht : Nat.blt t σ.n = true) (h0 : (σ.slots t).noOw = true)
    (hb : σ.boxes t = none) (hx : σ.evv x = s) (hf : s.flat = some cs) (hany : cs.all C.known = true) (hN : N ((σ.setBox t cs).put t (.one (.bp t 0)))) : OpW P o N σ := by
  intro K w I g tm hi
  obtain ⟨h1, h2⟩ := hi.evv x hx
  obtain ⟨q1, _⟩ := shape_cells hf h1
  have hcells := flat_cells hf
  have hne : ∀ (i : Nat) (c : C), cs[i]? = some c → c ≠ .any := fun i c hc e => by
    have := List.all_eq_true.1 hany c (List.mem_of_getElem? hc)
    subst e; simp [C.known] at this
  have hnew := hi.newBox (t := t) hb (e := e) (vs := (Act.eval ⟨tm, []⟩ x).cells.toList) (cs := cs) (fun i c hc => by
    obtain ⟨how, u, hu, hr⟩ := h2 i c (by rw [hcells]; exact hc)
    rw [q1] at hu
    exact ⟨how, u, hu, (hr ⟨true, t, i⟩).one (hne i c hc), hr _⟩)
  have hrun : (execOp (Act.eval ⟨tm, []⟩) o).run P w = .ok (.value (.pointer (some ⟨w.heap.size, 0, none⟩))) (w.alloc (.cells (Act.eval ⟨tm, []⟩ x).cells.toList.toArray e)) := by
    simp [execOp, ho, Instr.box, newVar, newRow]
  rw [hrun]
  simp only [Oper.upon, Act.put, hd]
  refine ⟨trivial, _, I, _, hN, hnew.put (Nat.le_of_ble_eq_true ht) (by simpa [St.setBox] using h0) rfl (fun i c hc => ?_)⟩
  obtain ⟨rfl, rfl⟩ := one_cell hc
  exact ⟨_, rfl, by simp, by simp [St.setBox]⟩

def C.ofZ : Value → C
  | .slice none 0 0 => .nl
  | v => .d (.v v)
theorem CR.ofZ {w : World} {I : Nat → Prop} {g : Gh} {tm : Array Value} {pl : Pl} {v : Value} (h : scal v = true ∨ v = .slice none 0 0) : CR w I g σ tm pl (C.ofZ v) v := by
  unfold C.ofZ
  split
  · rfl
  · rcases h with h | h
    · exact Rd.v.2 ⟨rfl, h⟩
    · subst h; rename_i hne; exact absurd rfl hne
def zeroB (P : Program) (e : TypeId) : Option (List Value) := ((P.info? e).bind (·.zero)).map fun z => z.cells.toList
def plainZ (zs : List Value) : Bool := zs.all fun z => scal z || (match z with | .slice none 0 0 => true | _ => false)

theorem op_alloc {o : Oper} {t : Nat} {e : TypeId} {zs : List Value} {N : St → Prop} (ho : o.op = .alloc e) (hd : o.dst = some t) (ht : Nat.blt t σ.n = true) (h0 : (σ.slots t).noOw = true)
    (hb : σ.boxes t = none) (hz : zeroB P e = some zs) (hp : plainZ zs = true) (hN : N ((σ.setBox t (zs.map C.ofZ)).put t (.one (.bp t 0)))) : OpW P o N σ := by
  intro K w I g tm hi
  unfold zeroB at hz
  cases hinf : P.info? e with
  | none => simp [hinf] at hz
  | some inf =>
    cases hzz : inf.zero with
    | none => simp [hinf, hzz] at hz
    | some z =>
      simp [hinf, hzz] at hz
      have hnew := hi.newBox (t := t) hb (e := e) (vs := z.cells.toList) (cs := zs.map C.ofZ) (fun i c hc => by
        simp only [List.getElem?_map, Option.map_eq_some_iff] at hc
        obtain ⟨v, hv, rfl⟩ := hc
        have hpv := List.all_eq_true.1 hp v (List.mem_of_getElem? hv)
        have hor : scal v = true ∨ v = .slice none 0 0 := by
          simp only [Bool.or_eq_true] at hpv
          rcases hpv with h | h
          · exact .inl h
          · right; split at h <;> first | rfl | cases h
        have hcr : CR w I g σ tm ⟨true, t, i⟩ (C.ofZ v) v := CR.ofZ hor
        refine ⟨?_, v, by rw [hz]; exact hv, hcr.one ?_, hcr⟩
        · unfold C.ofZ; split <;> rfl
        · unfold C.ofZ; split <;> simp)
      have hrun : (execOp (Act.eval ⟨tm, []⟩) o).run P w = .ok (.value (.pointer (some ⟨w.heap.size, 0, none⟩))) (w.alloc (.cells z.cells.toList.toArray e)) := by
        simp [execOp, ho, Instr.alloc, zeroValue, typeInfo, hinf, hzz, newVar, newRow]
      rw [hrun]
      simp only [Oper.upon, Act.put, hd]
      refine ⟨trivial, _, I, _, hN, hnew.put (Nat.le_of_ble_eq_true ht) (by simpa [St.setBox] using h0) rfl (fun i c hc => ?_)⟩
      obtain ⟨rfl, rfl⟩ := one_cell hc
      exact ⟨_, rfl, by simp, by simp [St.setBox]⟩

/-- Cells of one block written one behind the other. -/
def putC (w : World) (b : Nat) : Nat → List Value → World
  | _, [] => w
  | o, v :: vs => putC (w.setCell ⟨b, o, none⟩ v) b (o + 1) vs

theorem setCell_cell (w : World) (b o : Nat) (v : Value) (b' o' : Nat) (hs : (w.cell? ⟨b, o, none⟩).isSome = true) : (w.setCell ⟨b, o, none⟩ v).cell? ⟨b', o', none⟩ = if b' = b ∧ o' = o then some v else w.cell? ⟨b', o', none⟩ := by
  unfold World.cell? World.setCell at *
  simp only [Array.getElem?_modify] at *
  by_cases hb : b' = b
  · subst hb
    simp only [if_true, true_and]
    cases hq : w.heap[b']? with
    | none => simp [hq] at hs
    | some ob =>
      rw [hq] at hs
      cases ob with
      | cells c e f =>
        simp only [Option.isSome_none, Bool.false_eq_true, if_false, Option.map_some, Array.getElem?_setIfInBounds] at hs ⊢
        have hlt : o < c.size := by
          rcases Nat.lt_or_ge o c.size with h | h
          · exact h
          · simp [Array.getElem?_eq_none h] at hs
        by_cases ho : o' = o
        · subst ho; simp [hlt]
        · simp [ho, Ne.symm ho]
      | _ => simp at hs
  · simp [hb, Ne.symm hb]
theorem setCell_frozen (w : World) (b o : Nat) (v : Value) (b' o' : Nat) : (w.setCell ⟨b, o, none⟩ v).frozen? ⟨b', o', none⟩ = w.frozen? ⟨b', o', none⟩ := by
  unfold World.frozen? World.setCell
  simp only [Array.getElem?_modify]
  by_cases hb : b = b'
  · subst hb
    simp only [if_true]
    cases hq : w.heap[b]? with
    | none => rfl
    | some ob => cases ob <;> rfl
  · simp [hb]
theorem putC_facts {b : Nat} : ∀ {vs : List Value} {o : Nat} {w : World}, (∀ j, j < vs.length → (w.cell? ⟨b, o + j, none⟩).isSome = true) →
    (∀ b' o', (putC w b o vs).cell? ⟨b', o', none⟩ = if b' = b ∧ o ≤ o' ∧ o' < o + vs.length then vs[o' - o]? else w.cell? ⟨b', o', none⟩) ∧
    (∀ b' o', (putC w b o vs).frozen? ⟨b', o', none⟩ = w.frozen? ⟨b', o', none⟩) ∧ (∀ k, k ≠ b → (putC w b o vs).heap[k]? = w.heap[k]?) ∧ (putC w b o vs).heap.size = w.heap.size ∧
    (putC w b o vs).os = w.os ∧ (putC w b o vs).tape = w.tape ∧ (putC w b o vs).output = w.output
  | [], o, w, _ => ⟨fun b' o' => by rw [if_neg (by simp only [List.length_nil]; omega)]; rfl, fun _ _ => rfl, fun _ _ => rfl, rfl, rfl, rfl, rfl⟩
  | v :: vs, o, w, h => by
    have h0 := h 0 (by simp)
    rw [Nat.add_zero] at h0
    obtain ⟨f1, f2, f3, f4, f5, f6, f7⟩ := putC_facts (b := b) (vs := vs) (o := o + 1) (w := w.setCell ⟨b, o, none⟩ v) (fun j hj => by
      rw [setCell_cell _ _ _ _ _ _ h0]
      split
      · rfl
      · have := h (j + 1) (by simpa using hj)
        rw [show o + 1 + j = o + (j + 1) by omega]; exact this)
    refine ⟨fun b' o' => ?_, fun b' o' => (f2 b' o').trans (setCell_frozen ..), fun k hk => (f3 k hk).trans (Go.RowKit.Below.heap_setCell _ _ _ _ hk), f4.trans (by simp [World.setCell]), f5, f6, f7⟩
    rw [putC, f1, setCell_cell _ _ _ _ _ _ h0]
    by_cases hb : b' = b
    · subst hb
      by_cases e : o' = o
      · subst e
        rw [if_neg (by omega), if_pos ⟨rfl, rfl⟩, if_pos ⟨rfl, Nat.le_refl _, by simp⟩]
        simp
      · by_cases e2 : o + 1 ≤ o' ∧ o' < o + 1 + vs.length
        · rw [if_pos ⟨rfl, e2⟩, if_pos ⟨rfl, by omega, by simp only [List.length_cons]; omega⟩]
          rw [show o' - o = (o' - (o + 1)) + 1 by omega, List.getElem?_cons_succ]
        · rw [if_neg (fun hh => e2 hh.2), if_neg (fun hh => e hh.2), if_neg (by simp only [List.length_cons]; omega)]
    · rw [if_neg (fun hh => hb hh.1), if_neg (fun hh => hb hh.1), if_neg (fun hh => hb hh.1)]
theorem run_storeCells_box {b o : Nat} : ∀ {vs : List Value} {i : Nat} {w : World}, (∀ j, j < vs.length → (w.cell? ⟨b, o + i + j, none⟩).isSome = true ∧ w.frozen? ⟨b, o + i + j, none⟩ = false) → (∀ v ∈ vs, v.oneCell' = true) →
    (storeCells ⟨b, o, none⟩ vs i).run P w = .ok () (putC w b (o + i) vs)
  | [], i, w, _, _ => rfl
  | v :: vs, i, w, h, h1 => by
    obtain ⟨h2, h3⟩ := h 0 (by simp)
    rw [Nat.add_zero] at h2 h3
    have hv := h1 v (by simp)
    unfold storeCells
    rw [Sem.run_bind, addr_add, run_store _ _ _ _ _ hv]
    cases hc : w.cell? ⟨b, o + i, none⟩ with
    | none => rw [hc] at h2; cases h2
    | some u =>
      simp only [h3, Bool.false_eq_true, if_false, Result.andThen_ok]
      rw [run_storeCells_box (vs := vs) (i := i + 1) (w := w.setCell ⟨b, o + i, none⟩ v) (fun j hj => ?_) (fun v hv => h1 v (by simp [hv]))]
      · rfl
      · obtain ⟨q1, q2⟩ := h (j + 1) (by simpa using hj)
        rw [show o + (i + 1) + j = o + i + (j + 1) by omega]
        refine ⟨?_, by rw [setCell_frozen]; exact q2⟩
        rw [setCell_cell _ _ _ _ _ _ h2]
        split
        · rfl
        · exact q1
theorem run_storeVar_box {ty : TypeId} {b o : Nat} {w : World} {v : Value} (hs : sizeB P ty = some v.cells.size) (h : ∀ j, j < v.cells.toList.length → (w.cell? ⟨b, o + j, none⟩).isSome = true ∧ w.frozen? ⟨b, o + j, none⟩ = false)
    (h1 : ∀ u ∈ v.cells.toList, u.oneCell' = true) : (storeVar ty ⟨b, o, none⟩ v).run P w = .ok () (putC w b o v.cells.toList) := by
  have := run_storeCells_box (P := P) (b := b) (o := o) (vs := v.cells.toList) (i := 0) (w := w) (fun j hj => by rw [Nat.add_zero]; exact h j hj) h1
  rw [Nat.add_zero] at this
  simp [storeVar, run_sizeB hs, this]

end Go.AX
