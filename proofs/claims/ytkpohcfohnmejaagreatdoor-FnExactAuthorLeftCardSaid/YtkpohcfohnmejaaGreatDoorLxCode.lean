/- A part of the proof of the statement in the row text. -/
import Derived.Test.YtkpohcfohnmejaaGreatDoorLxInv
import Derived.Laws.Cells
import Derived.Laws.Entries
import Derived.Tactics
import Derived.Maps.AppendAt
import Derived.Great.FillDense
import Derived.Laws.OwnMore
import Derived.Laws.Slices
/- Runs of single instructions, with no state in sight. -/
set_option linter.unusedVariables false
set_option linter.unusedSimpArgs false
namespace Go.LX
variable {P : Program}
theorem addr_add (b o j : Nat) : (⟨b, o, none⟩ : Addr).add j = ⟨b, o + j, none⟩ := by
  unfold Addr.add
  split
  · subst_vars; rfl
  · rfl

/-- Is a type a struct (or an array)? -/
def aggB (P : Program) (ty : TypeId) : Option Bool := (P.underlying ty).map fun d => match d with | .struct _ | .array _ _ => true | _ => false
def sizeB (P : Program) (ty : TypeId) : Option Nat := (P.info? ty).map (·.size)
/-- Where a field lies (a field of no cells apart). -/
def fieldOff (P : Program) (s : TypeId) (f : Nat) : Option Nat :=
  match P.underlying s with
  | some (.struct fs) => match fs[f]? with
    | some fld => match sizeB P fld.type with
      | some (_ + 1) => some fld.offset
      | _ => none
    | none => none
  | _ => none

theorem run_isAgg {ty : TypeId} {b : Bool} (h : aggB P ty = some b) (w : World) : (isAgg ty).run P w = .ok b w := by
  unfold aggB at h
  cases hu : P.underlying ty with
  | none => simp [hu] at h
  | some d =>
    simp [hu] at h
    simp only [isAgg, Sem.run_bind, run_underlying hu, Result.andThen_ok]
    cases d <;> simp_all
theorem run_sizeB {ty : TypeId} {n : Nat} (h : sizeB P ty = some n) (w : World) : (sizeOf ty).run P w = .ok n w := by
  unfold sizeB at h
  cases hu : P.info? ty with
  | none => simp [hu] at h
  | some d => simp [hu] at h; simp [sizeOf, typeInfo, hu, h]

theorem run_loadVar_one {ty : TypeId} {w : World} {a : Addr} {v : Value} (hb : aggB P ty = some false) (h : w.cell? a = some v) : (loadVar ty a).run P w = .ok v w := by
  simp [loadVar, run_isAgg hb, h]
theorem run_loadVar_agg {ty : TypeId} {w : World} {b o n : Nat} {vs : List Value} (hb : aggB P ty = some true) (hn : sizeB P ty = some n) (hl : vs.length = n) (h : ∀ j u, vs[j]? = some u → w.cell? ⟨b, o + j, none⟩ = some u) :
    (loadVar ty ⟨b, o, none⟩).run P w = .ok (.agg vs.toArray) w := by
  have := run_loadCells_list (P := P) w ⟨b, o, none⟩ vs (fun j v hv => by rw [addr_add]; exact h j v hv)
  subst hl
  simp [loadVar, run_isAgg hb, run_sizeB hn, this]

/-- The address of a field. -/
theorem run_fieldAt {s : TypeId} {f off : Nat} (h : fieldOff P s f = some off) (w : World) (b o : Nat) : (Instr.fieldAt s (.pointer (some ⟨b, o, none⟩)) f).run P w = .ok (.pointer (some ⟨b, o + off, none⟩)) w := by
  unfold fieldOff at h
  cases hu : P.underlying s with
  | none => simp [hu] at h
  | some d =>
    cases d with
    | struct fs =>
      simp only [hu] at h
      cases hf : fs[f]? with
      | none => simp [hf] at h
      | some fld =>
        simp only [hf] at h
        cases hs : sizeB P fld.type with
        | none => simp [hs] at h
        | some n =>
          cases n with
          | zero => simp [hs] at h
          | succ n =>
            simp [hs] at h
            subst h
            simp [Instr.fieldAt, run_underlying hu, hf, Instr.sureAddr, fieldPlace, run_sizeB hs, addr_add]
    | _ => simp [hu] at h
/-- The address of an element, to be read. -/
theorem run_indexAt {ty e : TypeId} {size b o len cap i : Nat} {k : IntKind} (hty : P.underlying ty = some (.slice e)) (hs : sizeB P e = some size) (h : i < len) (w : World) :
    (Instr.indexAt ty (.slice (some ⟨b, o, none⟩) len cap) (.int k i)).run P w = .ok (.pointer (some ⟨b, o + i * size, none⟩)) w := by
  simp [Instr.indexAt, asIntOf, run_underlying hty, h, run_sizeB hs, addr_add]
def binR (op : BinOp) (k : IntKind) (a b : Int) : Option Value :=
  match op with
  | .add => some (.int k (k.wrap (a + b)))
  | .sub => some (.int k (k.wrap (a - b)))
  | .mul => some (.int k (k.wrap (a * b)))
  | .quo => if b = 0 then none else some (.int k (k.wrap (a.tdiv b)))
  | .rem => if b = 0 then none else some (.int k (a.tmod b))
  | .eql => some (.bool (a == b))
  | .neq => some (.bool (a != b))
  | .lss => some (.bool (decide (a < b)))
  | .leq => some (.bool (decide (a ≤ b)))
  | .gtr => some (.bool (decide (a > b)))
  | .geq => some (.bool (decide (a ≥ b)))
  | .and => some (.int k (k.wrap (BitVec.ofInt k.bits a &&& BitVec.ofInt k.bits b).toNat))
  | .or => some (.int k (k.wrap (BitVec.ofInt k.bits a ||| BitVec.ofInt k.bits b).toNat))
  | _ => none
def zeroB (P : Program) (e : TypeId) : Option (List Value) := ((P.info? e).bind (·.zero)).map fun z => z.cells.toList
/-- Cells of one block written one behind the other. -/
def putC (w : World) (b : Nat) : Nat → List Value → World
  | _, [] => w
  | o, v :: vs => putC (w.setCell ⟨b, o, none⟩ v) b (o + 1) vs

theorem setCell_cell (w : World) (b o : Nat) (v : Value) (b' o' : Nat) (hs : (w.cell? ⟨b, o, none⟩).isSome = true) : (w.setCell ⟨b, o, none⟩ v).cell? ⟨b', o', none⟩ = if b' = b ∧ o' = o then some v else w.cell? ⟨b', o', none⟩ := by
  unfold World.cell? World.setCell at *
  simp only [Array.getElem?_modify] at *
  by_cases hb : b' = b
  · subst hb
    simp only [if_true, true_and]
    cases hq : w.heap[b']? with
    | none => simp [hq] at hs
    | some ob =>
      rw [hq] at hs
      cases ob with
      | cells c e f =>
        simp only [Option.isSome_none, Bool.false_eq_true, if_false, Option.map_some, Array.getElem?_setIfInBounds] at hs ⊢
        have hlt : o < c.size := by
          rcases Nat.lt_or_ge o c.size with h | h
          · exact h
          · simp [Array.getElem?_eq_none h] at hs
        by_cases ho : o' = o
        · subst ho; simp [hlt]
        · simp [ho, Ne.symm ho]
      | _ => simp at hs
  · simp [hb, Ne.symm hb]
theorem setCell_frozen (w : World) (b o : Nat) (v : Value) (b' o' : Nat) : (w.setCell ⟨b, o, none⟩ v).frozen? ⟨b', o', none⟩ = w.frozen? ⟨b', o', none⟩ := by
  unfold World.frozen? World.setCell
  simp only [Array.getElem?_modify]
  by_cases hb : b = b'
  · subst hb
    simp only [if_true]
    cases hq : w.heap[b]? with
    | none => rfl
    | some ob => cases ob <;> rfl
  · simp [hb]
theorem putC_facts {b : Nat} : ∀ {vs : List Value} {o : Nat} {w : World}, (∀ j, j < vs.length → (w.cell? ⟨b, o + j, none⟩).isSome = true) →
    (∀ b' o', (putC w b o vs).cell? ⟨b', o', none⟩ = if b' = b ∧ o ≤ o' ∧ o' < o + vs.length then vs[o' - o]? else w.cell? ⟨b', o', none⟩) ∧
    (∀ b' o', (putC w b o vs).frozen? ⟨b', o', none⟩ = w.frozen? ⟨b', o', none⟩) ∧ (∀ k, k ≠ b → (putC w b o vs).heap[k]? = w.heap[k]?) ∧ (putC w b o vs).heap.size = w.heap.size ∧
    (putC w b o vs).os = w.os ∧ (putC w b o vs).tape = w.tape ∧ (putC w b o vs).output = w.output
  | [], o, w, _ => ⟨fun b' o' => by rw [if_neg (by simp only [List.length_nil]; omega)]; rfl, fun _ _ => rfl, fun _ _ => rfl, rfl, rfl, rfl, rfl⟩
  | v :: vs, o, w, h => by
    have h0 := h 0 (by simp)
    rw [Nat.add_zero] at h0
    obtain ⟨f1, f2, f3, f4, f5, f6, f7⟩ := putC_facts (b := b) (vs := vs) (o := o + 1) (w := w.setCell ⟨b, o, none⟩ v) (fun j hj => by
      rw [setCell_cell _ _ _ _ _ _ h0]
      split
      · rfl
      · have := h (j + 1) (by simpa using hj)
        rw [show o + 1 + j = o + (j + 1) by omega]; exact this)
    refine ⟨fun b' o' => ?_, fun b' o' => (f2 b' o').trans (setCell_frozen ..), fun k hk => (f3 k hk).trans (Go.RowKit.Below.heap_setCell _ _ _ _ hk), f4.trans (by simp [World.setCell]), f5, f6, f7⟩
    rw [putC, f1, setCell_cell _ _ _ _ _ _ h0]
    by_cases hb : b' = b
    · subst hb
      by_cases e : o' = o
      · subst e
        rw [if_neg (by omega), if_pos ⟨rfl, rfl⟩, if_pos ⟨rfl, Nat.le_refl _, by simp⟩]
        simp
      · by_cases e2 : o + 1 ≤ o' ∧ o' < o + 1 + vs.length
        · rw [if_pos ⟨rfl, e2⟩, if_pos ⟨rfl, by omega, by simp only [List.length_cons]; omega⟩]
          rw [show o' - o = (o' - (o + 1)) + 1 by omega, List.getElem?_cons_succ]
        · rw [if_neg (fun hh => e2 hh.2), if_neg (fun hh => e hh.2), if_neg (by simp only [List.length_cons]; omega)]
    · rw [if_neg (fun hh => hb hh.1), if_neg (fun hh => hb hh.1), if_neg (fun hh => hb hh.1)]
theorem run_storeCells_box {b o : Nat} : ∀ {vs : List Value} {i : Nat} {w : World}, (∀ j, j < vs.length → (w.cell? ⟨b, o + i + j, none⟩).isSome = true ∧ w.frozen? ⟨b, o + i + j, none⟩ = false) → (∀ v ∈ vs, v.oneCell' = true) →
    (storeCells ⟨b, o, none⟩ vs i).run P w = .ok () (putC w b (o + i) vs)
  | [], i, w, _, _ => rfl
  | v :: vs, i, w, h, h1 => by
    obtain ⟨h2, h3⟩ := h 0 (by simp)
    rw [Nat.add_zero] at h2 h3
    have hv := h1 v (by simp)
    unfold storeCells
    rw [Sem.run_bind, addr_add, run_store _ _ _ _ _ hv]
    cases hc : w.cell? ⟨b, o + i, none⟩ with
    | none => rw [hc] at h2; cases h2
    | some u =>
      simp only [h3, Bool.false_eq_true, if_false, Result.andThen_ok]
      rw [run_storeCells_box (vs := vs) (i := i + 1) (w := w.setCell ⟨b, o + i, none⟩ v) (fun j hj => ?_) (fun v hv => h1 v (by simp [hv]))]
      · rfl
      · obtain ⟨q1, q2⟩ := h (j + 1) (by simpa using hj)
        rw [show o + (i + 1) + j = o + i + (j + 1) by omega]
        refine ⟨?_, by rw [setCell_frozen]; exact q2⟩
        rw [setCell_cell _ _ _ _ _ _ h2]
        split
        · rfl
        · exact q1
theorem run_storeVar_box {ty : TypeId} {b o : Nat} {w : World} {v : Value} (hs : sizeB P ty = some v.cells.size) (h : ∀ j, j < v.cells.toList.length → (w.cell? ⟨b, o + j, none⟩).isSome = true ∧ w.frozen? ⟨b, o + j, none⟩ = false)
    (h1 : ∀ u ∈ v.cells.toList, u.oneCell' = true) : (storeVar ty ⟨b, o, none⟩ v).run P w = .ok () (putC w b o v.cells.toList) := by
  have := run_storeCells_box (P := P) (b := b) (o := o) (vs := v.cells.toList) (i := 0) (w := w) (fun j hj => by rw [Nat.add_zero]; exact h j hj) h1
  rw [Nat.add_zero] at this
  simp [storeVar, run_sizeB hs, this]


def placesB (P : Program) : List Field → Option (List (Nat × Nat))
  | [] => some []
  | f :: r => match sizeB P f.type, placesB P r with
    | some n, some ps => some ((f.offset, n) :: ps)
    | _, _ => none
def fieldsB (P : Program) (ty : TypeId) : Option (List (Nat × Nat)) :=
  match P.underlying ty with
  | some (.struct fs) => placesB P fs.toList
  | _ => none
theorem run_placesB : ∀ {fs : List Field} {ps : List (Nat × Nat)}, placesB P fs = some ps → ∀ w, (fs.mapM fun f => do pure (f.offset, ← sizeOf f.type) : Sem (List (Nat × Nat))).run P w = .ok ps w
  | [], ps, h, w => by simp [placesB] at h; subst h; rfl
  | f :: r, ps, h, w => by
    unfold placesB at h
    cases h1 : sizeB P f.type with
    | none => simp [h1] at h
    | some n =>
      cases h2 : placesB P r with
      | none => simp [h1, h2] at h
      | some ps' =>
        simp [h1, h2] at h
        subst h
        have := run_placesB h2 w
        rw [List.mapM_cons]
        simp only [Sem.run_bind, run_sizeB h1, Result.andThen_ok, Sem.run_pure]
        rw [this]
        rfl

theorem run_zeroV {e : TypeId} {inf : TypeInfo} {z : Value} (h : P.info? e = some inf) (hz : inf.zero = some z) (w : World) : (zeroValue e).run P w = .ok z w := by
  simp [zeroValue, typeInfo, h, hz]
def binB (op : BinOp) (a b : Bool) : Option Bool :=
  match op with
  | .eql => some (a == b)
  | .neq => some (a != b)
  | _ => none
theorem run_eqB {ty : TypeId} (h : P.underlying ty = some .bool) (a b : Bool) (w : World) : (Op.equalIn Op.maxDepth ty (.bool a) (.bool b)).run P w = .ok (a == b) w := by
  obtain ⟨d, hd⟩ : ∃ d, Op.maxDepth = d + 1 := ⟨9999, rfl⟩
  rw [hd]
  simp [Op.equalIn, run_underlying h]
end Go.LX

/- Code over abstract states: the rules for what is no single operation. -/
set_option linter.unusedVariables false
set_option linter.unusedSimpArgs false
namespace Go.LX

/-- What code does, from one abstract state on, for every machine that it describes. -/
def W [Glob] (P : Program) (c : Code) (Q : Exit → St → Prop) (σ : St) : Prop :=
  ∀ (K : Ctx) (w : World) (I : Nat → Prop) (g : Gh) (tm : Array Value), Inv K w I g σ tm →
    c.wp P (fun e a w' => a.defers = [] ∧ ∃ σ' I' g', Q e σ' ∧ Inv K w' I' g' σ' a.tmps) ⟨tm, []⟩ w

/-- The same for the operations l of a region (ops: all of them). -/
def WO [Glob] (P : Program) (ops : Array Oper) (Q : Exit → St → Prop) (l : List Oper) (σ : St) : Prop :=
  ∀ (K : Ctx) (w : World) (I : Nat → Prop) (g : Gh) (tm : Array Value), Inv K w I g σ tm →
    wpList P ops (fun e a w' => a.defers = [] ∧ ∃ σ' I' g', Q e σ' ∧ Inv K w' I' g' σ' a.tmps) l ⟨tm, []⟩ w

variable {P : Program} {Q Q' : Exit → St → Prop} {σ σ' : St}

theorem W.mono [Glob] {c : Code} (h : W P c Q σ) (hq : ∀ e σ, Q e σ → Q' e σ) : W P c Q' σ :=
  fun K w I g tm hi => wp_mono (h K w I g tm hi) fun _ _ _ ⟨hd, σ', I', g', q, r⟩ => ⟨hd, σ', I', g', hq _ _ q, r⟩

/-- A state that tells less may be put for one that tells more. -/
def Wk [Glob] (σ σ' : St) : Prop := ∀ (K : Ctx) (w : World) (I : Nat → Prop) (g : Gh) (tm : Array Value), Inv K w I g σ tm → ∃ I' g', Inv K w I' g' σ' tm
theorem Wk.refl [Glob] (σ : St) : Wk σ σ := fun _ _ I g _ h => ⟨I, g, h⟩
theorem Wk.trans [Glob] {σ'' : St} (h : Wk σ σ') (h' : Wk σ' σ'') : Wk σ σ'' := fun K w I g tm hi => let ⟨I', g', h1⟩ := h K w I g tm hi; h' K w I' g' tm h1
theorem W.weak [Glob] {c : Code} (hw : Wk σ σ') (h : W P c Q σ') : W P c Q σ := fun K w I g tm hi => let ⟨I', g', h1⟩ := hw K w I g tm hi; h K w I' g' tm h1
theorem WO.weak [Glob] {ops : Array Oper} {l : List Oper} (hw : Wk σ σ') (h : WO P ops Q l σ') : WO P ops Q l σ := fun K w I g tm hi => let ⟨I', g', h1⟩ := hw K w I g tm hi; h K w I' g' tm h1

def Exit.thenS (next : St → Prop) (Q : Exit → St → Prop) : Exit → St → Prop
  | .normal, σ => next σ
  | e, σ => Q e σ
def Exit.inBlockS (id : Nat) (Q : Exit → St → Prop) : Exit → St → Prop
  | .exit id', σ => if id' = id then Q .normal σ else Q (.exit id') σ
  | e, σ => Q e σ

theorem W_skip [Glob] (h : Q .normal σ) : W P .skip Q σ := fun _ _ I g _ hi => wp_skip ⟨rfl, σ, I, g, h, hi⟩
theorem W_ret [Glob] (h : Q .ret σ) : W P .ret Q σ := fun _ _ I g _ hi => wp_ret ⟨rfl, σ, I, g, h, hi⟩
theorem W_exit [Glob] {id : Nat} (h : Q (.exit id) σ) : W P (.exit id) Q σ := fun _ _ I g _ hi => wp_exit ⟨rfl, σ, I, g, h, hi⟩
theorem W_label [Glob] {l : Nat} (h : Q .normal σ) : W P (.label l) Q σ := fun _ _ I g _ hi => wp_label ⟨rfl, σ, I, g, h, hi⟩
theorem W_seq [Glob] {a b : Code} (h : W P a (Exit.thenS (W P b Q) Q) σ) : W P (.seq a b) Q σ := by
  intro K w I g tm hi
  refine wp_seq (wp_mono (h K w I g tm hi) ?_)
  rintro e ⟨tm', d'⟩ w' ⟨hd, σ', I', g', q, r⟩
  obtain rfl : d' = [] := hd
  cases e with
  | normal => exact q K w' I' g' tm' r
  | exit id => exact ⟨rfl, σ', I', g', q, r⟩
  | goto l => exact ⟨rfl, σ', I', g', q, r⟩
  | ret => exact ⟨rfl, σ', I', g', q, r⟩
  | panic ch => exact ⟨rfl, σ', I', g', q, r⟩
  | outgrown => exact ⟨rfl, σ', I', g', q, r⟩
theorem W_block [Glob] {id : Nat} {c : Code} (h : W P c (Exit.inBlockS id Q) σ) : W P (.block id c) Q σ := by
  intro K w I g tm hi
  refine wp_block (wp_mono (h K w I g tm hi) ?_)
  rintro e ⟨tm', d'⟩ w' ⟨hd, σ', I', g', q, r⟩
  obtain rfl : d' = [] := hd
  cases e with
  | normal => exact ⟨rfl, σ', I', g', q, r⟩
  | exit id' =>
    by_cases e : id' = id
    · subst e
      simp only [Exit.inBlockS, if_true] at q
      simp only [Exit.inBlock, if_true]
      exact ⟨trivial, σ', I', g', q, r⟩
    · simp only [Exit.inBlockS, e, if_false] at q
      simp only [Exit.inBlock, e, if_false]
      exact ⟨trivial, σ', I', g', q, r⟩
  | goto l => exact ⟨rfl, σ', I', g', q, r⟩
  | ret => exact ⟨rfl, σ', I', g', q, r⟩
  | panic ch => exact ⟨rfl, σ', I', g', q, r⟩
  | outgrown => exact ⟨rfl, σ', I', g', q, r⟩

/-- A loop: what holds of the state at each round's head, and a number that each round lowers. -/
theorem W_loop [Glob] {c : Code} (J : Nat → St → Prop) (m : Nat) (h0 : J m σ) (round : ∀ m σ, J m σ → W P c (Exit.thenS (fun σ' => ∃ m', m' < m ∧ J m' σ') Q) σ) : W P (.loop c) Q σ := by
  intro K w I g tm hi
  -- the number is read off by choice: rounds by strong induction instead
  have key : ∀ (m : Nat) (σ : St) (w : World) (I : Nat → Prop) (g : Gh) (tm : Array Value), J m σ → Inv K w I g σ tm →
      ∀ (b : Frame) (k : List Item) (cs : List Frame), ∃ e a' w', (a'.defers = [] ∧ ∃ σ' I' g', Q e σ' ∧ Inv K w' I' g' σ' a'.tmps) ∧ Arrives P (lone (b.at ⟨tm, []⟩ (.code c :: .inLoop c :: k)) cs w) b k cs e a' w' := by
    intro m
    induction m using Nat.strongRecOn with
    | _ m ih =>
      intro σ w I g tm hJ hi b k cs
      obtain ⟨e, ⟨tm', d'⟩, w₁, ⟨hd, σ', I', g', q, r⟩, harr⟩ := round m σ hJ K w I g tm hi b (.inLoop c :: k) cs
      obtain rfl : d' = [] := hd
      cases e with
      | normal =>
        obtain ⟨m', hm', hJ'⟩ := q
        obtain ⟨e₂, a₂, w₂, hq₂, harr₂⟩ := ih m' hm' σ' w₁ I' g' tm' hJ' r b k cs
        exact ⟨e₂, a₂, w₂, hq₂, .of_steps (Steps.trans harr (.one step_inLoop)) harr₂⟩
      | exit id => exact ⟨_, _, w₁, ⟨rfl, σ', I', g', q, r⟩, .pass (x := .inLoop c) rfl (fun _ _ => .inl (by simp)) harr⟩
      | goto l => exact ⟨_, _, w₁, ⟨rfl, σ', I', g', q, r⟩, .pass (x := .inLoop c) rfl (fun _ _ => .inl (by simp)) harr⟩
      | ret => exact ⟨_, _, w₁, ⟨rfl, σ', I', g', q, r⟩, .pass (x := .inLoop c) rfl (fun _ _ => .inl (by simp)) harr⟩
      | panic ch => exact ⟨_, _, w₁, ⟨rfl, σ', I', g', q, r⟩, .pass (x := .inLoop c) rfl (fun _ _ => .inl (by simp)) harr⟩
      | outgrown => exact ⟨_, _, w₁, ⟨rfl, σ', I', g', q, r⟩, .pass (x := .inLoop c) rfl (fun _ _ => .inl (by simp)) harr⟩
  intro b k cs
  obtain ⟨e, a', w', hq, harr⟩ := key m σ w I g tm h0 hi b k cs
  exact ⟨e, a', w', hq, .of_steps (.one step_loop) harr⟩

/-- An operand's abstract value. -/
def u8C (n : Int) : SV := if ((UInt8.ofNat n.toNat).toNat : Int) = n then .one (.d .u8 (UInt8.ofNat n.toNat)) else .un
def constSV : Value → SV
  | .bool b => .one (.d .bo b)
  | .int .u8 n => u8C n
  | .int k n => .one (.d (.i k) n)
  | .string s => .one (.d .st s.data.toList)
  | .slice none 0 0 => .one .nl
  | .nilIface => .one .ni
  | .pointer none => .one .np
  | _ => .un
def St.ev [Glob] (σ : St) : Operand → SV
  | .tmp t => σ.slots t
  | .const v => constSV v
  | .func f => .one (.fc f [])
  | .global n => match Glob.tab n with
    | some ⟨t, xs⟩ => .one (.pa t xs)
    | none => .un

theorem val_one {u : Value} (h : u.oneCell' = true) : valCells u = [u] := by
  revert h; cases u <;> simp [Value.oneCell', valCells, Value.cells]
theorem one_cell {s : C} {i : Nat} {c : C} (h : (SV.one s).cells[i]? = some c) : i = 0 ∧ c = s := by
  cases i with
  | zero => simp [SV.cells] at h; exact ⟨rfl, h.symm⟩
  | succ i => simp [SV.cells] at h

/-- What an operand stands for. -/
theorem Inv.ev [Glob] {K : Ctx} {w : World} {I : Nat → Prop} {g : Gh} {tm : Array Value} (h : Inv K w I g σ tm) (x : Operand) {s : SV} (hx : σ.ev x = s) : ShapeOK s (Act.eval ⟨tm, []⟩ x) ∧
    ∀ (i : Nat) (c : C), s.cells[i]? = some c → ∃ u, (valCells (Act.eval ⟨tm, []⟩ x))[i]? = some u ∧ CR w I g σ.objs c u := by
  subst hx
  have dd : ∀ (c : C) (u : Value), u.oneCell' = true → CR w I g σ.objs c u → ShapeOK (.one c) u ∧ ∀ (i : Nat) (c' : C), (SV.one c).cells[i]? = some c' → ∃ v, (valCells u)[i]? = some v ∧ CR w I g σ.objs c' v := by
    intro c u h1 h2
    refine ⟨h1, fun i c' hc => ?_⟩
    obtain ⟨rfl, rfl⟩ := one_cell hc
    exact ⟨u, by rw [val_one h1]; rfl, h2⟩
  have un : ∀ (u : Value), ShapeOK .un u ∧ ∀ (i : Nat) (c : C), SV.un.cells[i]? = some c → ∃ v, (valCells u)[i]? = some v ∧ CR w I g σ.objs c v :=
    fun u => ⟨trivial, fun i c hc => by simp [SV.cells] at hc⟩
  cases x with
  | tmp t => exact ⟨h.shape t, fun i c hc => h.slot t i c hc⟩
  | global n =>
    show ShapeOK (match Glob.tab n with | some ⟨t, xs⟩ => SV.one (.pa t xs) | none => .un) _ ∧ ∀ (i : Nat) (c : C), (match Glob.tab n with | some ⟨t, xs⟩ => SV.one (.pa t xs) | none => .un).cells[i]? = some c → _
    cases hn : Glob.tab n with
    | none => exact un _
    | some p => exact dd _ _ rfl (h.glob n p.1 p.2 hn).1
  | func f => exact dd _ _ rfl ⟨[], rfl, trivial⟩
  | const v =>
    show ShapeOK (constSV v) v ∧ ∀ (i : Nat) (c : C), (constSV v).cells[i]? = some c → ∃ u, (valCells v)[i]? = some u ∧ CR w I g σ.objs c u
    unfold constSV
    split
    · exact dd _ _ rfl rfl
    · unfold u8C
      split
      · rename_i n he
        refine dd _ _ rfl ?_
        show [Value.int .u8 _] = [Value.int .u8 _]
        rw [he]
      · exact un _
    · exact dd _ _ rfl rfl
    · exact dd _ _ rfl (by show [_] = [strV _]; simp [strV])
    · exact dd _ _ rfl rfl
    · exact dd _ _ rfl rfl
    · exact dd _ _ rfl rfl
    · exact un _

theorem Inv.ev_one [Glob] {K : Ctx} {w : World} {I : Nat → Prop} {g : Gh} {tm : Array Value} (h : Inv K w I g σ tm) {x : Operand} {c : C} (hx : σ.ev x = .one c) : CR w I g σ.objs c (Act.eval ⟨tm, []⟩ x) ∧ (Act.eval ⟨tm, []⟩ x).oneCell' = true := by
  obtain ⟨hs, hc⟩ := h.ev x hx
  obtain ⟨u, hu, hr⟩ := hc 0 c rfl
  have h1 : (Act.eval ⟨tm, []⟩ x).oneCell' = true := hs
  rw [val_one h1] at hu
  simp at hu
  subst hu
  exact ⟨hr, h1⟩
theorem Inv.ev_bo [Glob] {K : Ctx} {w : World} {I : Nat → Prop} {g : Gh} {tm : Array Value} (h : Inv K w I g σ tm) {x : Operand} {b : Bool} (hx : σ.ev x = .one (.d .bo b)) : Act.eval ⟨tm, []⟩ x = .bool b := by
  have : [Act.eval ⟨tm, []⟩ x] = [Value.bool b] := (h.ev_one hx).1
  simpa using this
theorem Inv.ev_i [Glob] {K : Ctx} {w : World} {I : Nat → Prop} {g : Gh} {tm : Array Value} (h : Inv K w I g σ tm) {x : Operand} {k : IntKind} {n : Int} (hx : σ.ev x = .one (.d (.i k) n)) : Act.eval ⟨tm, []⟩ x = .int k n := by
  have : [Act.eval ⟨tm, []⟩ x] = [Value.int k n] := (h.ev_one hx).1
  simpa using this
theorem Inv.ev_u8 [Glob] {K : Ctx} {w : World} {I : Nat → Prop} {g : Gh} {tm : Array Value} (h : Inv K w I g σ tm) {x : Operand} {n : UInt8} (hx : σ.ev x = .one (.d .u8 n)) : Act.eval ⟨tm, []⟩ x = .int .u8 (n.toNat : Int) := by
  have : [Act.eval ⟨tm, []⟩ x] = [Value.int .u8 (n.toNat : Int)] := (h.ev_one hx).1
  simpa using this
theorem Inv.ev_st [Glob] {K : Ctx} {w : World} {I : Nat → Prop} {g : Gh} {tm : Array Value} (h : Inv K w I g σ tm) {x : Operand} {s : List UInt8} (hx : σ.ev x = .one (.d .st s)) : Act.eval ⟨tm, []⟩ x = strV s := by
  have : [Act.eval ⟨tm, []⟩ x] = [strV s] := (h.ev_one hx).1
  simpa using this

theorem W_cond [Glob] {x : Operand} {a b : Code} {t : Bool} (hx : σ.ev x = .one (.d .bo t)) (ha : t = true → W P a Q σ) (hb : t = false → W P b Q σ) : W P (.cond x a b) Q σ := by
  intro K w I g tm hi
  refine wp_cond_split (hi.ev_bo hx) (fun ht => ha ht K w I g tm hi) (fun ht => hb ht K w I g tm hi)
theorem W_condT [Glob] {x : Operand} {a b : Code} {t : Bool} (hx : σ.ev x = .one (.d .bo t)) (ht : t = true) (ha : W P a Q σ) : W P (.cond x a b) Q σ := W_cond hx (fun _ => ha) fun h => by rw [ht] at h; cases h
theorem W_condF [Glob] {x : Operand} {a b : Code} {t : Bool} (hx : σ.ev x = .one (.d .bo t)) (ht : t = false) (hb : W P b Q σ) : W P (.cond x a b) Q σ := W_cond hx (fun h => by rw [ht] at h; cases h) fun _ => hb

theorem W_region [Glob] {id : Nat} {l : List Oper} (h : WO P l.toArray Q l σ) : W P (.region id l.toArray false) Q σ := fun K w I g tm hi => wp_region_lit (h K w I g tm hi)

theorem WO_nil [Glob] {ops : Array Oper} (h : Q .normal σ) : WO P ops Q [] σ := fun _ _ I g _ hi => ⟨rfl, σ, I, g, h, hi⟩

/-- One operation: it runs, and leaves the state σ'. -/
def OpW [Glob] (P : Program) (o : Oper) (N : St → Prop) (σ : St) : Prop :=
  ∀ (K : Ctx) (w : World) (I : Nat → Prop) (g : Gh) (tm : Array Value), Inv K w I g σ tm →
    o.upon P ⟨tm, []⟩ (fun a w' => a.defers = [] ∧ ∃ σ' I' g', N σ' ∧ Inv K w' I' g' σ' a.tmps) (fun _ _ _ => False) ((execOp (Act.eval ⟨tm, []⟩) o).run P w)

theorem upon_mono {o : Oper} {a : Act} {N N' : Act → World → Prop} {Q Q' : Exit → Act → World → Prop} (hN : ∀ a w, N a w → N' a w) (hQ : ∀ e a w, Q e a w → Q' e a w) {r : Result Next} (h : o.upon P a N Q r) : o.upon P a N' Q' r := by
  unfold Oper.upon at h ⊢
  split at h
  · exact hN _ _ h
  · exact hN _ _ h
  · exact hN _ _ h
  · refine h.mono fun e w' he => ?_
    cases e with
    | returned v => exact hN _ _ he
    | panicked ch => exact hQ _ _ _ he
    | outgrown => exact he.imp fun a h => h.imp fun w h => hQ _ _ _ h
  · exact h.mono fun v w' hv => hN _ _ hv
  · exact hQ _ _ _ h
  · exact h.elim

theorem WO_cons [Glob] {ops : Array Oper} {l : List Oper} {o : Oper} (hg : o.guard = none) (h : OpW P o (WO P ops Q l) σ) : WO P ops Q (o :: l) σ := by
  intro K w I g tm hi
  refine wpList_plain hg fun N hN => ?_
  refine upon_mono ?_ (fun e a w' h => h.elim) (h K w I g tm hi)
  rintro ⟨tm', d'⟩ w' ⟨hd, σ', I', g', n, r⟩
  obtain rfl : d' = [] := hd
  exact hN _ _ (n K w' I' g' tm' r)

/-- A guard's bool, as it is known. -/
theorem yielded_of [Glob] {ops : Array Oper} {j d : Nat} {t : Bool} {K : Ctx} {w : World} {I : Nat → Prop} {g : Gh} {tm : Array Value} (hi : Inv K w I g σ tm) (hj : (ops[j]?).bind (·.dst) = some d) (hd : σ.slots d = .one (.d .bo t)) (hn : d < σ.n) : yielded ops tm j = some t := by
  have hv : tm.getD d undef = .bool t := hi.ev_bo (x := .tmp d) hd
  have hv' : tm[d]? = some (.bool t) := by
    have : d < tm.size := by rw [hi.size]; exact hn
    rw [Array.getElem?_eq_getElem this]
    simpa [Array.getD_eq_getD_getElem?, this] using hv
  simp [yielded, hj, hv']
theorem WO_gT [Glob] {ops : Array Oper} {l : List Oper} {o : Oper} {j d : Nat} {pol t : Bool} (hg : o.guard = some (j, pol)) (hj : (ops[j]?).bind (·.dst) = some d) (hd : σ.slots d = .one (.d .bo t)) (hn : Nat.blt d σ.n = true) (ht : t = pol) (h : OpW P o (WO P ops Q l) σ) : WO P ops Q (o :: l) σ := by
  intro K w I g tm hi
  have hy := yielded_of hi hj hd (Nat.le_of_ble_eq_true hn)
  refine wpList_step fun N hN => ?_
  rw [if_pos (by simp [Region.wanted, hg, hy, ht])]
  refine upon_mono ?_ (fun e a w' h => h.elim) (h K w I g tm hi)
  rintro ⟨tm', d'⟩ w' ⟨hd, σ', I', g', n, r⟩
  obtain rfl : d' = [] := hd
  exact hN _ _ (n K w' I' g' tm' r)
theorem WO_gF [Glob] {ops : Array Oper} {l : List Oper} {o : Oper} {j d e : Nat} {pol t : Bool} (hg : o.guard = some (j, pol)) (hj : (ops[j]?).bind (·.dst) = some d) (hd : σ.slots d = .one (.d .bo t)) (hn : Nat.blt d σ.n = true) (ht : t = !pol)
    (he : o.dst = some e) (he1 : Nat.blt e σ.n = true) (h : WO P ops Q l (σ.put e (.tu []))) : WO P ops Q (o :: l) σ := by
  intro K w I g tm hi
  have hy := yielded_of hi hj hd (Nat.le_of_ble_eq_true hn)
  refine wpList_step fun N hN => ?_
  rw [if_neg (by simp [Region.wanted, hg, hy, ht])]
  have hp := hi.put (u := undef) (Nat.le_of_ble_eq_true he1) (s := .tu []) ⟨[], rfl, trivial⟩ fun i c hc => by simp [SV.cells] at hc
  refine hN _ _ ?_
  rw [he]
  exact h K w I g _ hp
/-- A guard that looks at an operation which was passed over. -/
theorem yielded_un [Glob] {ops : Array Oper} {j d : Nat} {K : Ctx} {w : World} {I : Nat → Prop} {g : Gh} {tm : Array Value} (hi : Inv K w I g σ tm) (hj : (ops[j]?).bind (·.dst) = some d) (hd : σ.slots d = .tu []) (hn : d < σ.n) : yielded ops tm j = none := by
  have hs := hi.shape d
  rw [hd] at hs
  obtain ⟨vs, hv, _⟩ := hs
  have hv' : tm[d]? = some (.tuple vs.toArray) := by
    have : d < tm.size := by rw [hi.size]; exact hn
    rw [Array.getElem?_eq_getElem this]
    simpa [Array.getD_eq_getD_getElem?, this] using hv
  simp [yielded, hj, hv']
theorem WO_gU [Glob] {ops : Array Oper} {l : List Oper} {o : Oper} {j d e : Nat} {pol : Bool} (hg : o.guard = some (j, pol)) (hj : (ops[j]?).bind (·.dst) = some d) (hd : σ.slots d = .tu []) (hn : Nat.blt d σ.n = true)
    (he : o.dst = some e) (he1 : Nat.blt e σ.n = true) (h : WO P ops Q l (σ.put e (.tu []))) : WO P ops Q (o :: l) σ := by
  intro K w I g tm hi
  have hy := yielded_un hi hj hd (Nat.le_of_ble_eq_true hn)
  refine wpList_step fun N hN => ?_
  rw [if_neg (by simp [Region.wanted, hg, hy])]
  have hp := hi.put (u := undef) (Nat.le_of_ble_eq_true he1) (s := .tu []) ⟨[], rfl, trivial⟩ fun i c hc => by simp [SV.cells] at hc
  refine hN _ _ ?_
  rw [he]
  exact h K w I g _ hp
/-- A guard that is open: both ways, its bool put for what it was. -/
theorem Wk_bool [Glob] {d : Nat} {t b : Bool} (hd : σ.slots d = .one (.d .bo t)) (ht : t = b) (hn : d < σ.n) : Wk σ (σ.put d (.one (.d .bo b))) := by
  intro K w I g tm hi
  have hv : tm.getD d undef = .bool b := by rw [← ht]; exact hi.ev_bo (x := .tmp d) hd
  have e : tm.setIfInBounds d (.bool b) = tm := by
    have hlt : d < tm.size := by rw [hi.size]; exact hn
    refine Array.ext (by simp) fun i h1 h2 => ?_
    rw [Array.getElem_setIfInBounds (by simpa using h1)]
    split
    · rename_i he
      subst he
      simpa [Array.getD_eq_getD_getElem?, hlt] using hv.symm
    · rfl
  have := hi.put (u := .bool b) hn (s := .one (.d .bo b)) rfl fun i c hc => by
    obtain ⟨rfl, rfl⟩ := one_cell hc
    exact ⟨_, rfl, rfl⟩
  rw [e] at this
  exact ⟨I, g, this⟩
theorem WO_gs [Glob] {ops : Array Oper} {l : List Oper} {o : Oper} {j d : Nat} {pol t : Bool} (_hg : o.guard = some (j, pol)) (_hj : (ops[j]?).bind (·.dst) = some d) (hd : σ.slots d = .one (.d .bo t)) (hn : Nat.blt d σ.n = true)
    (h1 : t = true → WO P ops Q (o :: l) (σ.put d (.one (.d .bo true)))) (h0 : t = false → WO P ops Q (o :: l) (σ.put d (.one (.d .bo false)))) : WO P ops Q (o :: l) σ := by
  cases t with
  | true => exact WO.weak (Wk_bool hd rfl (Nat.le_of_ble_eq_true hn)) (h1 rfl)
  | false => exact WO.weak (Wk_bool hd rfl (Nat.le_of_ble_eq_true hn)) (h0 rfl)

end Go.LX

