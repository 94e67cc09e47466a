/- The abstract state of one call (slots and boxes) and what it says of the machine. -/
import Derived.Test.YtbebnlhgnbnjoaaAxOwn
namespace Go.AX

/-- A place that may own a slice: cell c of a slot's value, or of a box. -/
structure Pl where
  box : Bool
  id : Nat
  c : Nat
  deriving DecidableEq

/-- The element type of an owned slice; the slice's value, where it stands fixed. -/
structure Tag where
  ty : TypeId
  pin : Option Value
instance (n : Nat) : OfNat Tag n := ⟨⟨n, none⟩⟩
instance : Inhabited Tag := ⟨⟨0, none⟩⟩
/-- A cell: plain data; an owned slice (k: how much deeper it owns); a view of an owned one; a pointer into a box, or to a cell of an owned slice; a closure over boxes; the nil slice; a pointer to cells of an owned slice that are read alone; whatever. -/
inductive C where
  | d (x : D)
  | ow (e : Tag) (size k : Nat) (rs : List (List D))
  | vw (p : Pl) (whole : Bool) (rs : List (List D))
  | bp (o c : Nat)
  | ep (p : Pl) (i j : Nat)
  | fc (fn : FuncId) (caps : List Nat)
  | nl
  | vp (p : Pl) (cs : List D)
  | any
  deriving Inhabited

inductive SV where
  | one (c : C)
  | ag (cs : List C)
  | tu (xs : List (Bool × List C))
  | un
  deriving Inhabited

def SV.cells : SV → List C
  | .one c => [c]
  | .ag cs => cs
  | .tu xs => xs.flatMap (·.2)
  | .un => []

def valCells : Value → List Value
  | .tuple vs => vs.toList.flatMap fun v => v.cells.toList
  | u => u.cells.toList

def ShapeOK : SV → Value → Prop
  | .one _, u => u.oneCell' = true
  | .ag cs, u => ∃ us : List Value, u = .agg us.toArray ∧ us.length = cs.length
  | .tu xs, u => ∃ vs : List Value, u = .tuple vs.toArray ∧ All2 (fun x v => if x.1 = true then ∃ us : List Value, v = .agg us.toArray ∧ us.length = x.2.length else v.oneCell' = true ∧ x.2.length = 1) xs vs
  | .un, _ => True

structure St where
  n : Nat
  slots : Nat → SV
  boxes : Nat → Option (List C)

def C.isOw : C → Bool
  | .ow .. => true
  | _ => false
def SV.noOw (s : SV) : Bool := s.cells.all fun c => !c.isOw

def St.put (σ : St) (t : Nat) (s : SV) : St := { σ with slots := fun t' => bif Nat.beq t' t then s else σ.slots t' }
def St.setBox (σ : St) (o : Nat) (cs : List C) : St := { σ with boxes := fun o' => bif Nat.beq o' o then some cs else σ.boxes o' }

def St.absAt (σ : St) (p : Pl) : Option C := if p.box = true then (σ.boxes p.id).bind (·[p.c]?) else (σ.slots p.id).cells[p.c]?

/-- Ghosts: where the boxes lie; which blocks each place owns. -/
structure Gh where
  addr : Nat → Nat × Nat
  L : Pl → List Nat

def realAt (w : World) (g : Gh) (tm : Array Value) (p : Pl) : Option Value :=
  if p.box = true then w.cell? ⟨(g.addr p.id).1, (g.addr p.id).2 + p.c, none⟩ else (valCells (tm.getD p.id undef))[p.c]?

def CR (w : World) (I : Nat → Prop) (g : Gh) (σ : St) (tm : Array Value) (pl : Pl) : C → Value → Prop
  | .d x, u => Rd w I x u
  | .ow e size k rs, u => ROT (RO w I k) w I e.ty size rs u (g.L pl) ∧ ∀ v, e.pin = some v → u = v
  | .vw p whole rs, u => Rd w (fun b => I b ∨ b ∈ g.L p) (.sl rs) u ∧ (whole = true → realAt w g tm p = some u ∧ ∃ e size k, σ.absAt p = some (.ow e size k rs))
  | .bp o c, u => u = .pointer (some ⟨(g.addr o).1, (g.addr o).2 + c, none⟩) ∧ (σ.boxes o).isSome = true
  | .ep p i j, u => ∃ b n cap e size k rs, realAt w g tm p = some (.slice (some ⟨b, 0, none⟩) n cap) ∧ σ.absAt p = some (.ow e size k rs) ∧ i < rs.length ∧ u = .pointer (some ⟨b, i * size + j, none⟩)
  | .fc fn caps, u => ∃ vs : List Value, u = .func (.func fn) #[] vs.toArray ∧ All2 (fun o v => v = .pointer (some ⟨(g.addr o).1, (g.addr o).2, none⟩) ∧ (σ.boxes o).isSome = true) caps vs
  | .nl, u => u = .slice none 0 0
  | .vp p cs, u => Rd w (fun b => I b ∨ b ∈ g.L p) (.p cs) u
  | .any, _ => True

/-- What stands fixed for one call: the world at entry, what was read alone then, the blocks and cells that it was handed to write. -/
structure Ctx where
  w0 : World
  I0 : Nat → Prop
  X : Nat → Prop
  R : Nat → Nat → Prop

structure Ctx.Fr (K : Ctx) (w : World) : Prop where
  os : w.os = K.w0.os
  tape : w.tape = K.w0.tape
  output : w.output = K.w0.output
  size : K.w0.heap.size ≤ w.heap.size
  old : ∀ b, b < K.w0.heap.size → ¬ K.X b → (∀ o, ¬ K.R b o) → w.heap[b]? = K.w0.heap[b]?
  part : ∀ b, b < K.w0.heap.size → ¬ K.X b → ∀ o, ¬ K.R b o → w.cell? ⟨b, o, none⟩ = K.w0.cell? ⟨b, o, none⟩
  froz : ∀ b, b < K.w0.heap.size → ¬ K.X b → ∀ o, w.frozen? ⟨b, o, none⟩ = K.w0.frozen? ⟨b, o, none⟩

structure Inv (K : Ctx) (w : World) (I : Nat → Prop) (g : Gh) (σ : St) (tm : Array Value) : Prop where
  fr : K.Fr w
  size : tm.size = σ.n
  imm0 : ∀ b, K.I0 b → I b
  immX : ∀ b, I b → b < w.heap.size ∧ (b < K.w0.heap.size → K.I0 b ∨ K.X b)
  dis : ∀ p q b, b ∈ g.L p → b ∈ g.L q → p = q
  nod : ∀ p, (g.L p).Nodup
  own : ∀ p b, b ∈ g.L p → ¬ I b ∧ b < w.heap.size ∧ (b < K.w0.heap.size → K.X b)
  nil : ∀ p, (∀ e size k rs, σ.absAt p ≠ some (.ow e size k rs)) → g.L p = []
  boxd : ∀ o o', (σ.boxes o).isSome = true → (σ.boxes o').isSome = true → (g.addr o).1 = (g.addr o').1 → o = o'
  boxi : ∀ o, (σ.boxes o).isSome = true → ¬ I (g.addr o).1 ∧ (∀ p, (g.addr o).1 ∉ g.L p) ∧ (g.addr o).1 < w.heap.size ∧ ((g.addr o).1 < K.w0.heap.size → ¬ K.X (g.addr o).1)
  boxc : ∀ o cs, σ.boxes o = some cs → ∀ j c, cs[j]? = some c → ∃ u, w.cell? ⟨(g.addr o).1, (g.addr o).2 + j, none⟩ = some u ∧ w.frozen? ⟨(g.addr o).1, (g.addr o).2 + j, none⟩ = false ∧ u.oneCell' = true ∧
    ((g.addr o).1 < K.w0.heap.size → K.R (g.addr o).1 ((g.addr o).2 + j)) ∧ CR w I g σ tm ⟨true, o, j⟩ c u
  shape : ∀ t, ShapeOK (σ.slots t) (tm.getD t undef)
  slot : ∀ t i c, (σ.slots t).cells[i]? = some c → ∃ u, (valCells (tm.getD t undef))[i]? = some u ∧ CR w I g σ tm ⟨false, t, i⟩ c u

theorem St.put_same (σ : St) (t : Nat) (s : SV) : (σ.put t s).slots t = s := by simp [St.put]
theorem St.put_other (σ : St) (t t' : Nat) (s : SV) (h : t' ≠ t) : (σ.put t s).slots t' = σ.slots t' := by
  have : Nat.beq t' t = false := by
    cases hb : Nat.beq t' t with
    | true => exact absurd (Nat.eq_of_beq_eq_true hb) h
    | false => rfl
  simp [St.put, this]

theorem noOw_get {s : SV} (h : s.noOw = true) {i : Nat} {c : C} (hc : s.cells[i]? = some c) : c.isOw = false := by
  have := List.all_eq_true.1 h c (List.mem_of_getElem? hc)
  simpa using this

/-- The place p is not one of slot t, or the slot owns nothing: what is told of p does not turn with the slot. -/
theorem absAt_put {σ : St} {t : Nat} (h0 : (σ.slots t).noOw = true) {p : Pl} {e : Tag} {size k : Nat} {rs : List (List D)} (h : σ.absAt p = some (.ow e size k rs)) : p.box = true ∨ p.id ≠ t := by
  by_cases hb : p.box = true
  · exact .inl hb
  · refine .inr fun e' => ?_
    simp only [St.absAt, hb, if_false, Bool.false_eq_true] at h
    rw [e'] at h
    have := noOw_get h0 h
    simp [C.isOw] at this

theorem absAt_put_other {σ : St} {t : Nat} {s : SV} {p : Pl} (h : p.box = true ∨ p.id ≠ t) : (σ.put t s).absAt p = σ.absAt p := by
  unfold St.absAt
  split
  · rfl
  · rename_i hb
    rw [St.put_other _ _ _ _ (h.resolve_left hb)]

theorem realAt_put_other {w : World} {g : Gh} {tm : Array Value} {t : Nat} {u : Value} {p : Pl} (h : p.box = true ∨ p.id ≠ t) : realAt w g (tm.setIfInBounds t u) p = realAt w g tm p := by
  unfold realAt
  split
  · rfl
  · rename_i hb
    have hne := h.resolve_left hb
    have : (tm.setIfInBounds t u).getD p.id undef = tm.getD p.id undef := by
      simp [Array.getD_eq_getD_getElem?, Ne.symm hne]
    rw [this]

/-- What a cell says of a value does not turn when a slot that owns nothing is written. -/
theorem CR.put {w : World} {I : Nat → Prop} {g : Gh} {σ : St} {tm : Array Value} {pl : Pl} {c : C} {v : Value} (h : CR w I g σ tm pl c v) {t : Nat} {s : SV} {u : Value} (h0 : (σ.slots t).noOw = true) : CR w I g (σ.put t s) (tm.setIfInBounds t u) pl c v := by
  cases c with
  | d x => exact h
  | ow e size k rs => exact h
  | any => trivial
  | nl => exact h
  | vp p cs => exact h
  | bp o c => exact h
  | fc fn caps => exact h
  | vw p whole rs =>
    refine ⟨h.1, fun hw => ?_⟩
    obtain ⟨h1, e, size, k, h2⟩ := h.2 hw
    have hp := absAt_put h0 h2
    exact ⟨by rw [realAt_put_other hp]; exact h1, e, size, k, by rw [absAt_put_other hp]; exact h2⟩
  | ep p i j =>
    obtain ⟨b, n, cap, e, size, k, rs, h1, h2, h3, h4⟩ := h
    have hp := absAt_put h0 h2
    exact ⟨b, n, cap, e, size, k, rs, by rw [realAt_put_other hp]; exact h1, by rw [absAt_put_other hp]; exact h2, h3, h4⟩

/-- A slot that owns nothing is written with what owns nothing. -/
theorem Inv.put {K : Ctx} {w : World} {I : Nat → Prop} {g : Gh} {σ : St} {tm : Array Value} (h : Inv K w I g σ tm) {t : Nat} {s : SV} {u : Value} (ht : t < σ.n) (h0 : (σ.slots t).noOw = true)
    (hsh : ShapeOK s u) (hc : ∀ i c, s.cells[i]? = some c → ∃ v, (valCells u)[i]? = some v ∧ CR w I g σ tm ⟨false, t, i⟩ c v) : Inv K w I g (σ.put t s) (tm.setIfInBounds t u) := by
  have hget : (tm.setIfInBounds t u).getD t undef = u := by
    have : t < tm.size := by rw [h.size]; exact ht
    simp [Array.getD_eq_getD_getElem?, this]
  have hoth : ∀ t', t' ≠ t → (tm.setIfInBounds t u).getD t' undef = tm.getD t' undef := fun t' hne => by
    simp [Array.getD_eq_getD_getElem?, Ne.symm hne]
  refine { h with
    size := by simpa [St.put] using h.size
    nil := fun p hp => ?_
    boxc := fun o cs ho j c hj => ?_
    shape := fun t' => ?_
    slot := fun t' i c hi => ?_ }
  · by_cases hpt : p.box = true ∨ p.id ≠ t
    · exact h.nil p fun e size k rs => by rw [← absAt_put_other (σ := σ) (s := s) hpt]; exact hp e size k rs
    · refine h.nil p fun e size k rs he => hpt (absAt_put h0 he)
  · obtain ⟨v, h1, h2, h2', h3, h4⟩ := h.boxc o cs ho j c hj
    exact ⟨v, h1, h2, h2', h3, h4.put h0⟩
  · by_cases e : t' = t
    · subst e; rw [St.put_same, hget]; exact hsh
    · rw [St.put_other _ _ _ _ e, hoth t' e]; exact h.shape t'
  · by_cases e : t' = t
    · subst e
      rw [St.put_same] at hi
      rw [hget]
      obtain ⟨v, h1, h2⟩ := hc i c hi
      exact ⟨v, h1, h2.put h0⟩
    · rw [St.put_other _ _ _ _ e] at hi
      rw [hoth t' e]
      obtain ⟨v, h1, h2⟩ := h.slot t' i c hi
      exact ⟨v, h1, h2.put h0⟩

theorem Below.cellB {w w' : World} (h : Go.RowKit.Below w.heap.size w w') {b : Nat} (hb : b < w.heap.size) (o : Nat) : w'.cell? ⟨b, o, none⟩ = w.cell? ⟨b, o, none⟩ := h.cell (p := ⟨b, o, none⟩) hb

theorem realAt_lt {K : Ctx} {w : World} {I : Nat → Prop} {g : Gh} {σ : St} {tm : Array Value} (h : Inv K w I g σ tm) {w' : World} (hw : Go.RowKit.Below w.heap.size w w') {p : Pl} (hp : σ.absAt p ≠ none) : realAt w' g tm p = realAt w g tm p := by
  unfold realAt
  split
  · rename_i hb
    have : (σ.boxes p.id).isSome = true := by
      simp only [St.absAt, hb, if_true] at hp
      cases hq : σ.boxes p.id with
      | none => simp [hq] at hp
      | some cs => rfl
    exact Below.cellB hw (h.boxi p.id this).2.2.1 _
  · rfl

theorem CR.grow {K : Ctx} {w : World} {I : Nat → Prop} {g : Gh} {σ : St} {tm : Array Value} (h : Inv K w I g σ tm) {w' : World} (hw : Go.RowKit.Below w.heap.size w w') {pl : Pl} {c : C} {v : Value} (hc : CR w I g σ tm pl c v) : CR w' I g σ tm pl c v := by
  have hI : ∀ b, I b → ∀ o, w'.cell? ⟨b, o, none⟩ = w.cell? ⟨b, o, none⟩ := fun b hb o => Below.cellB hw (h.immX b hb).1 o
  cases c with
  | d x => exact hc.kept (fun _ h => h) hI
  | ow e size k rs => exact ⟨ROT.kept hc.1 (fun _ h => h) hI fun b hb => hw.block b (h.own _ b hb).2.1, hc.2⟩
  | any => trivial
  | nl => exact hc
  | vp p cs =>
    refine hc.kept (fun _ h => h) (fun b hb o => ?_)
    rcases hb with hb | hb
    · exact hI b hb o
    · exact Below.cellB hw (h.own _ b hb).2.1 o
  | bp o c => exact hc
  | fc fn caps => exact hc
  | vw p whole rs =>
    refine ⟨hc.1.kept (fun _ h => h) (fun b hb o => ?_), fun hwh => ?_⟩
    · rcases hb with hb | hb
      · exact hI b hb o
      · exact Below.cellB hw (h.own _ b hb).2.1 o
    · obtain ⟨h1, e, size, k, h2⟩ := hc.2 hwh
      exact ⟨by rw [realAt_lt h hw (by rw [h2]; simp)]; exact h1, e, size, k, h2⟩
  | ep p i j =>
    obtain ⟨b, n, cap, e, size, k, rs, h1, h2, h3, h4⟩ := hc
    exact ⟨b, n, cap, e, size, k, rs, by rw [realAt_lt h hw (by rw [h2]; simp)]; exact h1, h2, h3, h4⟩

theorem Ctx.Fr.grow {K : Ctx} {w w' : World} (h : K.Fr w) (hw : Go.RowKit.Below w.heap.size w w') : K.Fr w' where
  os := hw.os.trans h.os
  tape := hw.tape.trans h.tape
  output := hw.output.trans h.output
  size := Nat.le_trans h.size hw.size
  old := fun b hb h1 h2 => (hw.block b (Nat.lt_of_lt_of_le hb h.size)).trans (h.old b hb h1 h2)
  part := fun b hb h1 o h2 => (Below.cellB hw (Nat.lt_of_lt_of_le hb h.size) o).trans (h.part b hb h1 o h2)
  froz := fun b hb h1 o => (hw.frozen (p := ⟨b, o, none⟩) (Nat.lt_of_lt_of_le hb h.size)).trans (h.froz b hb h1 o)

/-- New blocks and draws turn nothing. -/
theorem Inv.grow {K : Ctx} {w : World} {I : Nat → Prop} {g : Gh} {σ : St} {tm : Array Value} (h : Inv K w I g σ tm) {w' : World} (hw : Go.RowKit.Below w.heap.size w w') : Inv K w' I g σ tm :=
  { h with
    fr := h.fr.grow hw
    immX := fun b hb => ⟨Nat.lt_of_lt_of_le (h.immX b hb).1 hw.size, (h.immX b hb).2⟩
    own := fun p b hb => ⟨(h.own p b hb).1, Nat.lt_of_lt_of_le (h.own p b hb).2.1 hw.size, (h.own p b hb).2.2⟩
    boxi := fun o ho => ⟨(h.boxi o ho).1, (h.boxi o ho).2.1, Nat.lt_of_lt_of_le (h.boxi o ho).2.2.1 hw.size, (h.boxi o ho).2.2.2⟩
    boxc := fun o cs ho j c hj => by
      obtain ⟨u, h1, h2, h3, h4, h5⟩ := h.boxc o cs ho j c hj
      have hlt := (h.boxi o (by rw [ho]; rfl)).2.2.1
      exact ⟨u, (Below.cellB hw hlt _).trans h1, (hw.frozen (p := ⟨_, _, none⟩) hlt).trans h2, h3, h4, h5.grow h hw⟩
    slot := fun t i c hi => by
      obtain ⟨u, h1, h2⟩ := h.slot t i c hi
      exact ⟨u, h1, h2.grow h hw⟩ }

end Go.AX
