/- Runs of single instructions, with no state in sight. -/
import Derived.Test.YtojaiockbpcilaaLxState
import Derived.Laws.Cells
import Derived.Laws.Entries
import Derived.Tactics
import Derived.Maps.AppendAt
import Derived.Great.FillDense
import Derived.Laws.OwnMore
import Derived.Laws.Slices
set_option linter.unusedVariables false
set_option linter.unusedSimpArgs false
namespace Go.LX
variable {P : Program}
theorem addr_add (b o j : Nat) : (⟨b, o, none⟩ : Addr).add j = ⟨b, o + j, none⟩ := by
  unfold Addr.add
  split
  · subst_vars; rfl
  · rfl

/-- Is a type a struct (or an array)? -/
def aggB (P : Program) (ty : TypeId) : Option Bool := (P.underlying ty).map fun d => match d with | .struct _ | .array _ _ => true | _ => false
def sizeB (P : Program) (ty : TypeId) : Option Nat := (P.info? ty).map (·.size)
/-- Where a field lies (a field of no cells apart). -/
def fieldOff (P : Program) (s : TypeId) (f : Nat) : Option Nat :=
  match P.underlying s with
  | some (.struct fs) => match fs[f]? with
    | some fld => match sizeB P fld.type with
      | some (_ + 1) => some fld.offset
      | _ => none
    | none => none
  | _ => none

theorem run_isAgg {ty : TypeId} {b : Bool} (h : aggB P ty = some b) (w : World) : (isAgg ty).run P w = .ok b w := by
  unfold aggB at h
  cases hu : P.underlying ty with
  | none => simp [hu] at h
  | some d =>
    simp [hu] at h
    simp only [isAgg, Sem.run_bind, run_underlying hu, Result.andThen_ok]
    cases d <;> simp_all
theorem run_sizeB {ty : TypeId} {n : Nat} (h : sizeB P ty = some n) (w : World) : (sizeOf ty).run P w = .ok n w := by
  unfold sizeB at h
  cases hu : P.info? ty with
  | none => simp [hu] at h
  | some d => simp [hu] at h; simp [sizeOf, typeInfo, hu, h]

theorem run_loadVar_one {ty : TypeId} {w : World} {a : Addr} {v : Value} (hb : aggB P ty = some false) (h : w.cell? a = some v) : (loadVar ty a).run P w = .ok v w := by
  simp [loadVar, run_isAgg hb, h]
theorem run_loadVar_agg {ty : TypeId} {w : World} {b o n : Nat} {vs : List Value} (hb : aggB P ty = some true) (hn : sizeB P ty = some n) (hl : vs.length = n) (h : ∀ j u, vs[j]? = some u → w.cell? ⟨b, o + j, none⟩ = some u) :
    (loadVar ty ⟨b, o, none⟩).run P w = .ok (.agg vs.toArray) w := by
  have := run_loadCells_list (P := P) w ⟨b, o, none⟩ vs (fun j v hv => by rw [addr_add]; exact h j v hv)
  subst hl
  simp [loadVar, run_isAgg hb, run_sizeB hn, this]

/-- The address of a field. -/
theorem run_fieldAt {s : TypeId} {f off : Nat} (h : fieldOff P s f = some off) (w : World) (b o : Nat) : (Instr.fieldAt s (.pointer (some ⟨b, o, none⟩)) f).run P w = .ok (.pointer (some ⟨b, o + off, none⟩)) w := by
  unfold fieldOff at h
  cases hu : P.underlying s with
  | none => simp [hu] at h
  | some d =>
    cases d with
    | struct fs =>
      simp only [hu] at h
      cases hf : fs[f]? with
      | none => simp [hf] at h
      | some fld =>
        simp only [hf] at h
        cases hs : sizeB P fld.type with
        | none => simp [hs] at h
        | some n =>
          cases n with
          | zero => simp [hs] at h
          | succ n =>
            simp [hs] at h
            subst h
            simp [Instr.fieldAt, run_underlying hu, hf, Instr.sureAddr, fieldPlace, run_sizeB hs, addr_add]
    | _ => simp [hu] at h
/-- The address of an element, to be read. -/
theorem run_indexAt {ty e : TypeId} {size b o len cap i : Nat} {k : IntKind} (hty : P.underlying ty = some (.slice e)) (hs : sizeB P e = some size) (h : i < len) (w : World) :
    (Instr.indexAt ty (.slice (some ⟨b, o, none⟩) len cap) (.int k i)).run P w = .ok (.pointer (some ⟨b, o + i * size, none⟩)) w := by
  simp [Instr.indexAt, asIntOf, run_underlying hty, h, run_sizeB hs, addr_add]
def binR (op : BinOp) (k : IntKind) (a b : Int) : Option Value :=
  match op with
  | .add => some (.int k (k.wrap (a + b)))
  | .sub => some (.int k (k.wrap (a - b)))
  | .mul => some (.int k (k.wrap (a * b)))
  | .quo => if b = 0 then none else some (.int k (k.wrap (a.tdiv b)))
  | .rem => if b = 0 then none else some (.int k (a.tmod b))
  | .eql => some (.bool (a == b))
  | .neq => some (.bool (a != b))
  | .lss => some (.bool (decide (a < b)))
  | .leq => some (.bool (decide (a ≤ b)))
  | .gtr => some (.bool (decide (a > b)))
  | .geq => some (.bool (decide (a ≥ b)))
  | .and => some (.int k (k.wrap (BitVec.ofInt k.bits a &&& BitVec.ofInt k.bits b).toNat))
  | .or => some (.int k (k.wrap (BitVec.ofInt k.bits a ||| BitVec.ofInt k.bits b).toNat))
  | _ => none
def zeroB (P : Program) (e : TypeId) : Option (List Value) := ((P.info? e).bind (·.zero)).map fun z => z.cells.toList
/-- Cells of one block written one behind the other. -/
def putC (w : World) (b : Nat) : Nat → List Value → World
  | _, [] => w
  | o, v :: vs => putC (w.setCell ⟨b, o, none⟩ v) b (o + 1) vs

theorem setCell_cell (w : World) (b o : Nat) (v : Value) (b' o' : Nat) (hs : (w.cell? ⟨b, o, none⟩).isSome = true) : (w.setCell ⟨b, o, none⟩ v).cell? ⟨b', o', none⟩ = if b' = b ∧ o' = o then some v else w.cell? ⟨b', o', none⟩ := by
  unfold World.cell? World.setCell at *
  simp only [Array.getElem?_modify] at *
  by_cases hb : b' = b
  · subst hb
    simp only [if_true, true_and]
    cases hq : w.heap[b']? with
    | none => simp [hq] at hs
    | some ob =>
      rw [hq] at hs
      cases ob with
      | cells c e f =>
        simp only [Option.isSome_none, Bool.false_eq_true, if_false, Option.map_some, Array.getElem?_setIfInBounds] at hs ⊢
        have hlt : o < c.size := by
          rcases Nat.lt_or_ge o c.size with h | h
          · exact h
          · simp [Array.getElem?_eq_none h] at hs
        by_cases ho : o' = o
        · subst ho; simp [hlt]
        · simp [ho, Ne.symm ho]
      | _ => simp at hs
  · simp [hb, Ne.symm hb]
theorem setCell_frozen (w : World) (b o : Nat) (v : Value) (b' o' : Nat) : (w.setCell ⟨b, o, none⟩ v).frozen? ⟨b', o', none⟩ = w.frozen? ⟨b', o', none⟩ := by
  unfold World.frozen? World.setCell
  simp only [Array.getElem?_modify]
  by_cases hb : b = b'
  · subst hb
    simp only [if_true]
    cases hq : w.heap[b]? with
    | none => rfl
    | some ob => cases ob <;> rfl
  · simp [hb]
theorem putC_facts {b : Nat} : ∀ {vs : List Value} {o : Nat} {w : World}, (∀ j, j < vs.length → (w.cell? ⟨b, o + j, none⟩).isSome = true) →
    (∀ b' o', (putC w b o vs).cell? ⟨b', o', none⟩ = if b' = b ∧ o ≤ o' ∧ o' < o + vs.length then vs[o' - o]? else w.cell? ⟨b', o', none⟩) ∧
    (∀ b' o', (putC w b o vs).frozen? ⟨b', o', none⟩ = w.frozen? ⟨b', o', none⟩) ∧ (∀ k, k ≠ b → (putC w b o vs).heap[k]? = w.heap[k]?) ∧ (putC w b o vs).heap.size = w.heap.size ∧
    (putC w b o vs).os = w.os ∧ (putC w b o vs).tape = w.tape ∧ (putC w b o vs).output = w.output
  | [], o, w, _ => ⟨fun b' o' => by rw [if_neg (by simp only [List.length_nil]; omega)]; rfl, fun _ _ => rfl, fun _ _ => rfl, rfl, rfl, rfl, rfl⟩
  | v :: vs, o, w, h => by
    have h0 := h 0 (by simp)
    rw [Nat.add_zero] at h0
    obtain ⟨f1, f2, f3, f4, f5, f6, f7⟩ := putC_facts (b := b) (vs := vs) (o := o + 1) (w := w.setCell ⟨b, o, none⟩ v) (fun j hj => by
      rw [setCell_cell _ _ _ _ _ _ h0]
      split
      · rfl
      · have := h (j + 1) (by simpa using hj)
        rw [show o + 1 + j = o + (j + 1) by omega]; exact this)
    refine ⟨fun b' o' => ?_, fun b' o' => (f2 b' o').trans (setCell_frozen ..), fun k hk => (f3 k hk).trans (Go.RowKit.Below.heap_setCell _ _ _ _ hk), f4.trans (by simp [World.setCell]), f5, f6, f7⟩
    rw [putC, f1, setCell_cell _ _ _ _ _ _ h0]
    by_cases hb : b' = b
    · subst hb
      by_cases e : o' = o
      · subst e
        rw [if_neg (by omega), if_pos ⟨rfl, rfl⟩, if_pos ⟨rfl, Nat.le_refl _, by simp⟩]
        simp
      · by_cases e2 : o + 1 ≤ o' ∧ o' < o + 1 + vs.length
        · rw [if_pos ⟨rfl, e2⟩, if_pos ⟨rfl, by omega, by simp only [List.length_cons]; omega⟩]
          rw [show o' - o = (o' - (o + 1)) + 1 by omega, List.getElem?_cons_succ]
        · rw [if_neg (fun hh => e2 hh.2), if_neg (fun hh => e hh.2), if_neg (by simp only [List.length_cons]; omega)]
    · rw [if_neg (fun hh => hb hh.1), if_neg (fun hh => hb hh.1), if_neg (fun hh => hb hh.1)]
theorem run_storeCells_box {b o : Nat} : ∀ {vs : List Value} {i : Nat} {w : World}, (∀ j, j < vs.length → (w.cell? ⟨b, o + i + j, none⟩).isSome = true ∧ w.frozen? ⟨b, o + i + j, none⟩ = false) → (∀ v ∈ vs, v.oneCell' = true) →
    (storeCells ⟨b, o, none⟩ vs i).run P w = .ok () (putC w b (o + i) vs)
  | [], i, w, _, _ => rfl
  | v :: vs, i, w, h, h1 => by
    obtain ⟨h2, h3⟩ := h 0 (by simp)
    rw [Nat.add_zero] at h2 h3
    have hv := h1 v (by simp)
    unfold storeCells
    rw [Sem.run_bind, addr_add, run_store _ _ _ _ _ hv]
    cases hc : w.cell? ⟨b, o + i, none⟩ with
    | none => rw [hc] at h2; cases h2
    | some u =>
      simp only [h3, Bool.false_eq_true, if_false, Result.andThen_ok]
      rw [run_storeCells_box (vs := vs) (i := i + 1) (w := w.setCell ⟨b, o + i, none⟩ v) (fun j hj => ?_) (fun v hv => h1 v (by simp [hv]))]
      · rfl
      · obtain ⟨q1, q2⟩ := h (j + 1) (by simpa using hj)
        rw [show o + (i + 1) + j = o + i + (j + 1) by omega]
        refine ⟨?_, by rw [setCell_frozen]; exact q2⟩
        rw [setCell_cell _ _ _ _ _ _ h2]
        split
        · rfl
        · exact q1
theorem run_storeVar_box {ty : TypeId} {b o : Nat} {w : World} {v : Value} (hs : sizeB P ty = some v.cells.size) (h : ∀ j, j < v.cells.toList.length → (w.cell? ⟨b, o + j, none⟩).isSome = true ∧ w.frozen? ⟨b, o + j, none⟩ = false)
    (h1 : ∀ u ∈ v.cells.toList, u.oneCell' = true) : (storeVar ty ⟨b, o, none⟩ v).run P w = .ok () (putC w b o v.cells.toList) := by
  have := run_storeCells_box (P := P) (b := b) (o := o) (vs := v.cells.toList) (i := 0) (w := w) (fun j hj => by rw [Nat.add_zero]; exact h j hj) h1
  rw [Nat.add_zero] at this
  simp [storeVar, run_sizeB hs, this]


def placesB (P : Program) : List Field → Option (List (Nat × Nat))
  | [] => some []
  | f :: r => match sizeB P f.type, placesB P r with
    | some n, some ps => some ((f.offset, n) :: ps)
    | _, _ => none
def fieldsB (P : Program) (ty : TypeId) : Option (List (Nat × Nat)) :=
  match P.underlying ty with
  | some (.struct fs) => placesB P fs.toList
  | _ => none
theorem run_placesB : ∀ {fs : List Field} {ps : List (Nat × Nat)}, placesB P fs = some ps → ∀ w, (fs.mapM fun f => do pure (f.offset, ← sizeOf f.type) : Sem (List (Nat × Nat))).run P w = .ok ps w
  | [], ps, h, w => by simp [placesB] at h; subst h; rfl
  | f :: r, ps, h, w => by
    unfold placesB at h
    cases h1 : sizeB P f.type with
    | none => simp [h1] at h
    | some n =>
      cases h2 : placesB P r with
      | none => simp [h1, h2] at h
      | some ps' =>
        simp [h1, h2] at h
        subst h
        have := run_placesB h2 w
        rw [List.mapM_cons]
        simp only [Sem.run_bind, run_sizeB h1, Result.andThen_ok, Sem.run_pure]
        rw [this]
        rfl

theorem run_zeroV {e : TypeId} {inf : TypeInfo} {z : Value} (h : P.info? e = some inf) (hz : inf.zero = some z) (w : World) : (zeroValue e).run P w = .ok z w := by
  simp [zeroValue, typeInfo, h, hz]
def binB (op : BinOp) (a b : Bool) : Option Bool :=
  match op with
  | .eql => some (a == b)
  | .neq => some (a != b)
  | _ => none
theorem run_eqB {ty : TypeId} (h : P.underlying ty = some .bool) (a b : Bool) (w : World) : (Op.equalIn Op.maxDepth ty (.bool a) (.bool b)).run P w = .ok (a == b) w := by
  obtain ⟨d, hd⟩ : ∃ d, Op.maxDepth = d + 1 := ⟨9999, rfl⟩
  rw [hd]
  simp [Op.equalIn, run_underlying h]
end Go.LX
