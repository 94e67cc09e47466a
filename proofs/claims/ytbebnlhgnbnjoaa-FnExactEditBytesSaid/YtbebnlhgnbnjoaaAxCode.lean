/- Code over abstract states: the rules for what is no single operation. -/
import Derived.Test.YtbebnlhgnbnjoaaAxState
import Derived.Tactics
namespace Go.AX

/-- What code does, from one abstract state on, for every machine that it describes. -/
def W (P : Program) (c : Code) (Q : Exit → St → Prop) (σ : St) : Prop :=
  ∀ (K : Ctx) (w : World) (I : Nat → Prop) (g : Gh) (tm : Array Value), Inv K w I g σ tm →
    c.wp P (fun e a w' => a.defers = [] ∧ ∃ σ' I' g', Q e σ' ∧ Inv K w' I' g' σ' a.tmps) ⟨tm, []⟩ w

/-- The same for the operations l of a region (ops: all of them). -/
def WO (P : Program) (ops : Array Oper) (Q : Exit → St → Prop) (l : List Oper) (σ : St) : Prop :=
  ∀ (K : Ctx) (w : World) (I : Nat → Prop) (g : Gh) (tm : Array Value), Inv K w I g σ tm →
    wpList P ops (fun e a w' => a.defers = [] ∧ ∃ σ' I' g', Q e σ' ∧ Inv K w' I' g' σ' a.tmps) l ⟨tm, []⟩ w

variable {P : Program} {Q Q' : Exit → St → Prop} {σ σ' : St}

theorem W.mono {c : Code} (h : W P c Q σ) (hq : ∀ e σ, Q e σ → Q' e σ) : W P c Q' σ :=
  fun K w I g tm hi => wp_mono (h K w I g tm hi) fun _ _ _ ⟨hd, σ', I', g', q, r⟩ => ⟨hd, σ', I', g', hq _ _ q, r⟩

/-- A state that tells less may be put for one that tells more. -/
def Wk (σ σ' : St) : Prop := ∀ (K : Ctx) (w : World) (I : Nat → Prop) (g : Gh) (tm : Array Value), Inv K w I g σ tm → ∃ I' g', Inv K w I' g' σ' tm
theorem Wk.refl (σ : St) : Wk σ σ := fun _ _ I g _ h => ⟨I, g, h⟩
theorem Wk.trans {σ'' : St} (h : Wk σ σ') (h' : Wk σ' σ'') : Wk σ σ'' := fun K w I g tm hi => let ⟨I', g', h1⟩ := h K w I g tm hi; h' K w I' g' tm h1
theorem W.weak {c : Code} (hw : Wk σ σ') (h : W P c Q σ') : W P c Q σ := fun K w I g tm hi => let ⟨I', g', h1⟩ := hw K w I g tm hi; h K w I' g' tm h1
theorem WO.weak {ops : Array Oper} {l : List Oper} (hw : Wk σ σ') (h : WO P ops Q l σ') : WO P ops Q l σ := fun K w I g tm hi => let ⟨I', g', h1⟩ := hw K w I g tm hi; h K w I' g' tm h1

def Exit.thenS (next : St → Prop) (Q : Exit → St → Prop) : Exit → St → Prop
  | .normal, σ => next σ
  | e, σ => Q e σ
def Exit.inBlockS (id : Nat) (Q : Exit → St → Prop) : Exit → St → Prop
  | .exit id', σ => if id' = id then Q .normal σ else Q (.exit id') σ
  | e, σ => Q e σ

theorem W_skip (h : Q .normal σ) : W P .skip Q σ := fun _ _ I g _ hi => wp_skip ⟨rfl, σ, I, g, h, hi⟩
theorem W_ret (h : Q .ret σ) : W P .ret Q σ := fun _ _ I g _ hi => wp_ret ⟨rfl, σ, I, g, h, hi⟩
theorem W_exit {id : Nat} (h : Q (.exit id) σ) : W P (.exit id) Q σ := fun _ _ I g _ hi => wp_exit ⟨rfl, σ, I, g, h, hi⟩
theorem W_label {l : Nat} (h : Q .normal σ) : W P (.label l) Q σ := fun _ _ I g _ hi => wp_label ⟨rfl, σ, I, g, h, hi⟩
theorem W_seq {a b : Code} (h : W P a (Exit.thenS (W P b Q) Q) σ) : W P (.seq a b) Q σ := by
  intro K w I g tm hi
  refine wp_seq (wp_mono (h K w I g tm hi) ?_)
  rintro e ⟨tm', d'⟩ w' ⟨hd, σ', I', g', q, r⟩
  obtain rfl : d' = [] := hd
  cases e with
  | normal => exact q K w' I' g' tm' r
  | exit id => exact ⟨rfl, σ', I', g', q, r⟩
  | goto l => exact ⟨rfl, σ', I', g', q, r⟩
  | ret => exact ⟨rfl, σ', I', g', q, r⟩
  | panic ch => exact ⟨rfl, σ', I', g', q, r⟩
  | outgrown => exact ⟨rfl, σ', I', g', q, r⟩
theorem W_block {id : Nat} {c : Code} (h : W P c (Exit.inBlockS id Q) σ) : W P (.block id c) Q σ := by
  intro K w I g tm hi
  refine wp_block (wp_mono (h K w I g tm hi) ?_)
  rintro e ⟨tm', d'⟩ w' ⟨hd, σ', I', g', q, r⟩
  obtain rfl : d' = [] := hd
  cases e with
  | normal => exact ⟨rfl, σ', I', g', q, r⟩
  | exit id' =>
    by_cases e : id' = id
    · subst e
      simp only [Exit.inBlockS, if_true] at q
      simp only [Exit.inBlock, if_true]
      exact ⟨trivial, σ', I', g', q, r⟩
    · simp only [Exit.inBlockS, e, if_false] at q
      simp only [Exit.inBlock, e, if_false]
      exact ⟨trivial, σ', I', g', q, r⟩
  | goto l => exact ⟨rfl, σ', I', g', q, r⟩
  | ret => exact ⟨rfl, σ', I', g', q, r⟩
  | panic ch => exact ⟨rfl, σ', I', g', q, r⟩
  | outgrown => exact ⟨rfl, σ', I', g', q, r⟩

/-- A loop: what holds of the state at each round's head, and a number that each round lowers. -/
theorem W_loop {c : Code} (J : Nat → St → Prop) (m : Nat) (h0 : J m σ) (round : ∀ m σ, J m σ → W P c (Exit.thenS (fun σ' => ∃ m', m' < m ∧ J m' σ') Q) σ) : W P (.loop c) Q σ := by
  intro K w I g tm hi
  -- the number is read off by choice: rounds by strong induction instead
  have key : ∀ (m : Nat) (σ : St) (w : World) (I : Nat → Prop) (g : Gh) (tm : Array Value), J m σ → Inv K w I g σ tm →
      ∀ (b : Frame) (k : List Item) (cs : List Frame), ∃ e a' w', (a'.defers = [] ∧ ∃ σ' I' g', Q e σ' ∧ Inv K w' I' g' σ' a'.tmps) ∧ Arrives P (lone (b.at ⟨tm, []⟩ (.code c :: .inLoop c :: k)) cs w) b k cs e a' w' := by
    intro m
    induction m using Nat.strongRecOn with
    | _ m ih =>
      intro σ w I g tm hJ hi b k cs
      obtain ⟨e, ⟨tm', d'⟩, w₁, ⟨hd, σ', I', g', q, r⟩, harr⟩ := round m σ hJ K w I g tm hi b (.inLoop c :: k) cs
      obtain rfl : d' = [] := hd
      cases e with
      | normal =>
        obtain ⟨m', hm', hJ'⟩ := q
        obtain ⟨e₂, a₂, w₂, hq₂, harr₂⟩ := ih m' hm' σ' w₁ I' g' tm' hJ' r b k cs
        exact ⟨e₂, a₂, w₂, hq₂, .of_steps (Steps.trans harr (.one step_inLoop)) harr₂⟩
      | exit id => exact ⟨_, _, w₁, ⟨rfl, σ', I', g', q, r⟩, .pass (x := .inLoop c) rfl (fun _ _ => .inl (by simp)) harr⟩
      | goto l => exact ⟨_, _, w₁, ⟨rfl, σ', I', g', q, r⟩, .pass (x := .inLoop c) rfl (fun _ _ => .inl (by simp)) harr⟩
      | ret => exact ⟨_, _, w₁, ⟨rfl, σ', I', g', q, r⟩, .pass (x := .inLoop c) rfl (fun _ _ => .inl (by simp)) harr⟩
      | panic ch => exact ⟨_, _, w₁, ⟨rfl, σ', I', g', q, r⟩, .pass (x := .inLoop c) rfl (fun _ _ => .inl (by simp)) harr⟩
      | outgrown => exact ⟨_, _, w₁, ⟨rfl, σ', I', g', q, r⟩, .pass (x := .inLoop c) rfl (fun _ _ => .inl (by simp)) harr⟩
  intro b k cs
  obtain ⟨e, a', w', hq, harr⟩ := key m σ w I g tm h0 hi b k cs
  exact ⟨e, a', w', hq, .of_steps (.one step_loop) harr⟩

/-- An operand's abstract value. -/
def St.ev (σ : St) : Operand → SV
  | .tmp t => σ.slots t
  | .const (.bool b) => .one (.d (.v (.bool b)))
  | .const (.int k n) => .one (.d (.v (.int k n)))
  | .const (.string s) => .one (.d (.v (.string s)))
  | .const (.slice none 0 0) => .one .nl
  | .const .nilFunc => .one (.d (.v .nilFunc))
  | .const .nilIface => .one (.d (.v .nilIface))
  | .const (.pointer none) => .one (.d (.v (.pointer none)))
  | .func f => .one (.d (.f f []))
  | _ => .un

/-- What an operand stands for. -/
theorem Inv.ev {K : Ctx} {w : World} {I : Nat → Prop} {g : Gh} {tm : Array Value} (h : Inv K w I g σ tm) (x : Operand) {s : SV} (hx : σ.ev x = s) : ShapeOK s (Act.eval ⟨tm, []⟩ x) ∧
    ∀ i c, s.cells[i]? = some c → ∃ u, (valCells (Act.eval ⟨tm, []⟩ x))[i]? = some u ∧ ∃ pl, CR w I g σ tm pl c u ∧ (c.isOw = true → ∃ t, x = .tmp t ∧ pl = ⟨false, t, i⟩) := by
  subst hx
  have dd : ∀ (d : D) (u : Value), u.oneCell' = true → valCells u = [u] → Rd w I d u → ShapeOK (.one (.d d)) u ∧ ∀ i c, (SV.one (.d d)).cells[i]? = some c → ∃ v, (valCells u)[i]? = some v ∧ ∃ pl, CR w I g σ tm pl c v ∧ (c.isOw = true → ∃ t, x = .tmp t ∧ pl = ⟨false, t, i⟩) := by
    intro d u h1 hv h2
    refine ⟨h1, fun i c hc => ?_⟩
    cases i with
    | zero => simp [SV.cells] at hc; subst hc; exact ⟨u, by simp [hv], ⟨false, 0, 0⟩, h2, by simp [C.isOw]⟩
    | succ i => simp [SV.cells] at hc
  have un : ∀ (u : Value), ShapeOK .un u ∧ ∀ i c, SV.un.cells[i]? = some c → ∃ v, (valCells u)[i]? = some v ∧ ∃ pl, CR w I g σ tm pl c v ∧ (c.isOw = true → ∃ t, x = .tmp t ∧ pl = ⟨false, t, i⟩) :=
    fun u => ⟨trivial, fun i c hc => by simp [SV.cells] at hc⟩
  unfold St.ev
  split
  · rename_i t
    refine ⟨h.shape t, fun i c hc => ?_⟩
    obtain ⟨u, h1, h2⟩ := h.slot t i c hc
    exact ⟨u, h1, _, h2, fun _ => ⟨t, rfl, rfl⟩⟩
  · exact dd _ _ rfl rfl (Rd.v.2 ⟨rfl, rfl⟩)
  · exact dd _ _ rfl rfl (Rd.v.2 ⟨rfl, rfl⟩)
  · exact dd _ _ rfl rfl (Rd.v.2 ⟨rfl, rfl⟩)
  · refine ⟨rfl, fun i c hc => ?_⟩
    cases i with
    | zero => simp [SV.cells] at hc; subst hc; exact ⟨.slice none 0 0, rfl, ⟨false, 0, 0⟩, rfl, by simp [C.isOw]⟩
    | succ i => simp [SV.cells] at hc
  · exact dd _ _ rfl rfl (Rd.v.2 ⟨rfl, rfl⟩)
  · exact dd _ _ rfl rfl (Rd.v.2 ⟨rfl, rfl⟩)
  · exact dd _ _ rfl rfl (Rd.v.2 ⟨rfl, rfl⟩)
  · exact dd _ _ rfl rfl (Rd.f_iff.2 ⟨[], rfl, trivial⟩)
  · exact un _

/-- A scalar operand. -/
theorem Inv.ev_v {K : Ctx} {w : World} {I : Nat → Prop} {g : Gh} {tm : Array Value} (h : Inv K w I g σ tm) {x : Operand} {v : Value} (hx : σ.ev x = .one (.d (.v v))) : Act.eval ⟨tm, []⟩ x = v := by
  obtain ⟨hs, hc⟩ := h.ev x hx
  obtain ⟨u, hu, pl, hr, _⟩ := hc 0 _ rfl
  have : valCells (Act.eval ⟨tm, []⟩ x) = [Act.eval ⟨tm, []⟩ x] := by
    have h1 : (Act.eval ⟨tm, []⟩ x).oneCell' = true := hs
    revert h1
    cases Act.eval ⟨tm, []⟩ x <;> simp [Value.oneCell', valCells, Value.cells]
  rw [this] at hu
  simp at hu
  subst hu
  exact (Rd.v.1 hr).1

theorem W_cond {x : Operand} {a b : Code} {t : Bool} (hx : σ.ev x = .one (.d (.v (.bool t)))) (ha : t = true → W P a Q σ) (hb : t = false → W P b Q σ) : W P (.cond x a b) Q σ := by
  intro K w I g tm hi
  refine wp_cond_split (hi.ev_v hx) (fun ht => ha ht K w I g tm hi) (fun ht => hb ht K w I g tm hi)

theorem W_region {id : Nat} {l : List Oper} (h : WO P l.toArray Q l σ) : W P (.region id l.toArray false) Q σ := fun K w I g tm hi => wp_region_lit (h K w I g tm hi)

theorem WO_nil {ops : Array Oper} (h : Q .normal σ) : WO P ops Q [] σ := fun _ _ I g _ hi => ⟨rfl, σ, I, g, h, hi⟩

/-- One operation: it runs, and leaves the state σ'. -/
def OpW (P : Program) (o : Oper) (N : St → Prop) (σ : St) : Prop :=
  ∀ (K : Ctx) (w : World) (I : Nat → Prop) (g : Gh) (tm : Array Value), Inv K w I g σ tm →
    o.upon P ⟨tm, []⟩ (fun a w' => a.defers = [] ∧ ∃ σ' I' g', N σ' ∧ Inv K w' I' g' σ' a.tmps) (fun _ _ _ => False) ((execOp (Act.eval ⟨tm, []⟩) o).run P w)

theorem upon_mono {o : Oper} {a : Act} {N N' : Act → World → Prop} {Q Q' : Exit → Act → World → Prop} (hN : ∀ a w, N a w → N' a w) (hQ : ∀ e a w, Q e a w → Q' e a w) {r : Result Next} (h : o.upon P a N Q r) : o.upon P a N' Q' r := by
  unfold Oper.upon at h ⊢
  split at h
  · exact hN _ _ h
  · exact hN _ _ h
  · exact hN _ _ h
  · refine h.mono fun e w' he => ?_
    cases e with
    | returned v => exact hN _ _ he
    | panicked ch => exact hQ _ _ _ he
    | outgrown => exact he.imp fun a h => h.imp fun w h => hQ _ _ _ h
  · exact h.mono fun v w' hv => hN _ _ hv
  · exact hQ _ _ _ h
  · exact h.elim

theorem WO_cons {ops : Array Oper} {l : List Oper} {o : Oper} (hg : o.guard = none) (h : OpW P o (WO P ops Q l) σ) : WO P ops Q (o :: l) σ := by
  intro K w I g tm hi
  refine wpList_plain hg fun N hN => ?_
  refine upon_mono ?_ (fun e a w' h => h.elim) (h K w I g tm hi)
  rintro ⟨tm', d'⟩ w' ⟨hd, σ', I', g', n, r⟩
  obtain rfl : d' = [] := hd
  exact hN _ _ (n K w' I' g' tm' r)

/-- A guarded operation: j's bool tells whether it runs. -/
theorem WO_guard {ops : Array Oper} {l : List Oper} {o : Oper} {j d : Nat} {pol t : Bool} (hg : o.guard = some (j, pol)) (hj : (ops[j]?).bind (·.dst) = some d) (hd : σ.slots d = .one (.d (.v (.bool t)))) (hn : d < σ.n)
    (h1 : t = pol → OpW P o (WO P ops Q l) σ) (h2 : t = !pol → ∀ σ', (∀ K w I g tm, Inv K w I g σ tm → Inv K w I g σ' (Act.put ⟨tm, []⟩ o.dst undef).tmps) → σ' = (match o.dst with | some d => σ.put d .un | none => σ) → WO P ops Q l σ')
    (h0 : ∀ d, o.dst = some d → (σ.slots d).noOw = true ∧ d < σ.n) : WO P ops Q (o :: l) σ := by
  intro K w I g tm hi
  have hv : tm.getD d undef = .bool t := hi.ev_v (x := .tmp d) hd
  have hv' : tm[d]? = some (.bool t) := by
    have : d < tm.size := by rw [hi.size]; exact hn
    rw [Array.getElem?_eq_getElem this]
    simpa [Array.getD_eq_getD_getElem?, this] using hv
  have hy : yielded ops tm j = some t := by simp [yielded, hj, hv']
  refine wpList_step fun N hN => ?_
  by_cases ht : t = pol
  · rw [if_pos (by simp [Region.wanted, hg, hy, ht])]
    refine upon_mono ?_ (fun e a w' h => h.elim) (h1 ht K w I g tm hi)
    rintro ⟨tm', d'⟩ w' ⟨hd, σ', I', g', n, r⟩
    obtain rfl : d' = [] := hd
    exact hN _ _ (n K w' I' g' tm' r)
  · rw [if_neg (by simp [Region.wanted, hg, hy, ht])]
    refine hN _ _ ?_
    have hp : ∀ K w I g tm, Inv K w I g σ tm → Inv K w I g (match o.dst with | some d => σ.put d .un | none => σ) (Act.put ⟨tm, []⟩ o.dst undef).tmps := by
      intro K w I g tm hi
      cases hdst : o.dst with
      | none => exact hi
      | some d => exact hi.put (h0 d hdst).2 (h0 d hdst).1 trivial fun i c hc => by simp [SV.cells] at hc
    have := h2 (by cases t <;> cases pol <;> simp_all) _ hp rfl K w I g _ (hp K w I g tm hi)
    have e : Act.put ⟨tm, []⟩ o.dst undef = ⟨(Act.put ⟨tm, []⟩ o.dst undef).tmps, []⟩ := by cases o.dst <;> rfl
    rw [e]
    exact this

/-- A guarded operation that writes slot e. -/
theorem WO_guardS {ops : Array Oper} {l : List Oper} {o : Oper} {j d e : Nat} {pol t : Bool} (hg : o.guard = some (j, pol)) (hj : (ops[j]?).bind (·.dst) = some d) (hd : σ.slots d = .one (.d (.v (.bool t)))) (hn : Nat.blt d σ.n = true)
    (he : o.dst = some e) (he1 : Nat.blt e σ.n = true) (he0 : (σ.slots e).noOw = true)
    (h1 : t = pol → OpW P o (WO P ops Q l) σ) (h2 : t = !pol → WO P ops Q l (σ.put e .un)) : WO P ops Q (o :: l) σ := by
  refine WO_guard hg hj hd (Nat.le_of_ble_eq_true hn) h1 (fun ht σ' _ hσ => ?_) (fun d hd => ?_)
  · rw [he] at hσ; rw [hσ]; exact h2 ht
  · rw [he] at hd; cases hd; exact ⟨he0, Nat.le_of_ble_eq_true he1⟩

end Go.AX
