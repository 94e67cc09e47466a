/- The abstract state of one call: slots and objects, and what they say of the machine. -/
import Derived.Test.YtbebnlhgnbnjoaaLxTy
set_option linter.unusedVariables false
set_option linter.unusedSimpArgs false
namespace Go.LX

/-- How a cell names an object: the slice, whole or a part; data inside; a pointer to a written-out cell; a slice over such cells; a pointer to an element; to data inside; what lies in cell j of row i. -/
inductive Rf where
  | ar
  | sb (off len : Nat)
  | vw (t : Ty) (x : t.T)
  | pb (c : Nat)
  | as (wd n : Nat) (e : TypeId)
  | pe (i j : Nat)
  | vp (t : Ty) (x : t.T) (j : Nat)
  | ns (i j : Nat)
/-- A cell: plain data; something of an object; a pointer to data; a closure over boxes; a value known by a fact of its own; nil; empty; just a value; whatever. -/
inductive C where
  | d (t : Ty) (x : t.T)
  | rf (o : Nat) (r : Rf)
  | pd (t : Ty) (x : t.T) (j : Nat)
  | pa (t : Ty) (xs : List t.T)
  | fc (fn : FuncId) (caps : List Nat)
  | sem (φ : World → (Nat → Prop) → Value → Prop)
  | nl | np | ni | z
  | val (v : Value)
  | any
  deriving Inhabited

inductive SV where
  | one (c : C)
  | ag (cs : List C)
  | tu (xs : List (Bool × List C))
  | un
  deriving Inhabited

/-- An object: no more; cells written out (a box, a literal's array); an owned slice's rows; rows that stand fixed. -/
inductive Ob where
  | dead
  | cells (cs : List C)
  | rows (e : TypeId) (t : Ty) (dp : Bool) (xs : List t.T)
  | fz (t : Ty) (dp : Bool) (xs : List t.T)
  deriving Inhabited

def SV.cells : SV → List C
  | .one c => [c]
  | .ag cs => cs
  | .tu xs => xs.flatMap (·.2)
  | .un => []
def valCells : Value → List Value
  | .tuple vs => vs.toList.flatMap fun v => v.cells.toList
  | u => u.cells.toList

def All2 {α β : Type} (R : α → β → Prop) : List α → List β → Prop
  | [], [] => True
  | a :: as, b :: bs => R a b ∧ All2 R as bs
  | _, _ => False
theorem All2.length {α β : Type} {R : α → β → Prop} : ∀ {as : List α} {bs : List β}, All2 R as bs → as.length = bs.length
  | [], [], _ => rfl
  | _ :: _, _ :: _, h => congrArg (· + 1) (All2.length h.2)
  | [], _ :: _, h => h.elim
  | _ :: _, [], h => h.elim
theorem All2.mono {α β : Type} {R R' : α → β → Prop} : ∀ {as : List α} {bs : List β}, (∀ a ∈ as, ∀ b, R a b → R' a b) → All2 R as bs → All2 R' as bs
  | [], [], _, _ => trivial
  | a :: as, b :: bs, hr, h => ⟨hr a (by simp) b h.1, All2.mono (fun a ha b => hr a (by simp [ha]) b) h.2⟩
  | [], _ :: _, _, h => h.elim
  | _ :: _, [], _, h => h.elim
theorem All2.get {α β : Type} {R : α → β → Prop} : ∀ {as : List α} {bs : List β}, All2 R as bs → ∀ {i : Nat} {a : α}, as[i]? = some a → ∃ b, bs[i]? = some b ∧ R a b
  | [], [], _, i, a, h => by simp at h
  | a :: as, b :: bs, h, 0, x, hx => ⟨b, rfl, by simp at hx; exact hx ▸ h.1⟩
  | a :: as, b :: bs, h, i + 1, x, hx => by
    obtain ⟨u, hu, hr⟩ := All2.get h.2 (i := i) (a := x) (by simpa using hx)
    exact ⟨u, by simpa using hu, hr⟩
  | [], _ :: _, h, _, _, _ => h.elim
  | _ :: _, [], h, _, _, _ => h.elim

def AggOK (n : Nat) (u : Value) : Prop := ∃ us : List Value, u = .agg us.toArray ∧ us.length = n ∧ ∀ v ∈ us, v.oneCell' = true
def ShapeOK : SV → Value → Prop
  | .one _, u => u.oneCell' = true
  | .ag cs, u => AggOK cs.length u
  | .tu xs, u => ∃ vs : List Value, u = .tuple vs.toArray ∧ All2 (fun x v => if x.1 = true then AggOK x.2.length v else v.oneCell' = true ∧ x.2.length = 1) xs vs
  | .un, _ => True

structure St where
  n : Nat
  slots : Nat → SV
  objs : Nat → Option Ob

def St.put (σ : St) (t : Nat) (s : SV) : St := { σ with slots := fun t' => bif Nat.beq t' t then s else σ.slots t' }
def St.setO (σ : St) (o : Nat) (b : Ob) : St := { σ with objs := fun o' => bif Nat.beq o' o then some b else σ.objs o' }

/-- Ghosts: where boxes lie; the owned slices' values; the blocks of each object. -/
structure Gh where
  addr : Nat → Nat × Nat
  base : Nat → Value
  L : Nat → List Nat

/-- A part of a slice. -/
def SubOf (base : Value) (wd n off len : Nat) (u : Value) : Prop :=
  ∃ A cap B c, base = .slice A n cap ∧ u = .slice B len c ∧ off + len ≤ n ∧ len ≤ c ∧ c ≤ maxLen ∧ (0 < len → ∃ b, A = some ⟨b, 0, none⟩ ∧ B = some ⟨b, off * wd, none⟩)
/-- A pointer to cell j of a datum. -/
def PD (w : World) (S : Nat → Prop) (t : Ty) (x : t.T) (j : Nat) (u : Value) : Prop := ∃ b o us, u = .pointer (some ⟨b, o + j, none⟩) ∧ CellsAt w S b o us ∧ RT w S t x us
/-- A pointer to an array's data. -/
def PA (w : World) (S : Nat → Prop) (t : Ty) (xs : List t.T) (u : Value) : Prop := ∃ b o, u = .pointer (some ⟨b, o, none⟩) ∧ ∀ (i : Nat) (x : t.T), xs[i]? = some x → ∃ vs, CellsAt w S b (o + i * t.w) vs ∧ RT w S t x vs
theorem PA.kept {w w' : World} {S S' : Nat → Prop} {t : Ty} {xs : List t.T} {u : Value} (h : PA w S t xs u) (hS : ∀ b, S b → S' b) (hw : ∀ b, S b → ∀ o, w'.cell? ⟨b, o, none⟩ = w.cell? ⟨b, o, none⟩) : PA w' S' t xs u := by
  obtain ⟨b, o, e, h⟩ := h
  refine ⟨b, o, e, fun i x hx => ?_⟩
  obtain ⟨vs, hc, hr⟩ := h i x hx
  exact ⟨vs, ⟨hS _ hc.1, fun j u hu => (hw _ hc.1 _).trans (hc.2 j u hu)⟩, hr.kept hS hw⟩
/-- What the package-level variables hold that are read. -/
class Glob where
  tab : Nat → Option (Σ t : Ty, List t.T)
def GlobOK [Glob] (w : World) (I : Nat → Prop) : Prop := ∀ n t xs, Glob.tab n = some ⟨t, xs⟩ → PA w I t xs (.pointer (some ⟨n, 0, none⟩))
theorem GlobOK.kept [Glob] {w w' : World} {I I' : Nat → Prop} (h : GlobOK w I) (hS : ∀ b, I b → I' b) (hw : ∀ b, I b → ∀ o, w'.cell? ⟨b, o, none⟩ = w.cell? ⟨b, o, none⟩) : GlobOK w' I' := fun n t xs hn => (h n t xs hn).kept hS hw
def EltAt (base : Value) (wd n i j : Nat) (u : Value) : Prop := ∃ b cap, base = .slice (some ⟨b, 0, none⟩) n cap ∧ i < n ∧ u = .pointer (some ⟨b, i * wd + j, none⟩)
/-- A fact that stays where its blocks stay. -/
def Sem0 (φ : World → (Nat → Prop) → Value → Prop) : Prop := ∀ w w' I I' u, (∀ b, I b → I' b) → (∀ b, I b → ∀ o, w'.cell? ⟨b, o, none⟩ = w.cell? ⟨b, o, none⟩) → φ w I u → φ w' I' u

/-- Is cell j a slice? -/
def slAt : Ty → Nat → Bool
  | .pr a b, j => bif Nat.blt j a.w then slAt a j else slAt b (j - a.w)
  | .sl _, j => Nat.beq j 0
  | _, _ => false
/-- What a name of an object says of the value. -/
def see (w : World) (I : Nat → Prop) (ad : Nat × Nat) (base : Value) (L : List Nat) : Ob → Rf → Value → Prop
  | .rows _ _ _ _, .ar, u => u = base
  | .fz _ _ _, .ar, u => u = base
  | .rows _ t _ xs, .sb off len, u => SubOf base t.w xs.length off len u
  | .fz t _ xs, .sb off len, u => SubOf base t.w xs.length off len u
  | .rows _ _ true _, .vw t x, u => RT w (fun b => I b ∨ (b ∈ L ∧ base.ownBlock ≠ some b)) t x [u]
  | .fz _ true _, .vw t x, u => RT w I t x [u]
  | .cells _, .pb c, u => u = .pointer (some ⟨ad.1, ad.2 + c, none⟩)
  | .cells cs, .as wd n _, u => u = .slice (some ⟨ad.1, ad.2, none⟩) n n ∧ cs.length = n * wd ∧ n ≤ maxLen
  | .rows _ t _ xs, .pe i j, u => EltAt base t.w xs.length i j u
  | .fz t _ xs, .pe i j, u => EltAt base t.w xs.length i j u
  | .rows _ _ true _, .vp t x j, u => PD w (fun b => I b ∨ (b ∈ L ∧ base.ownBlock ≠ some b)) t x j u
  | .fz _ true _, .vp t x j, u => PD w I t x j u
  | .rows _ t true xs, .ns i j, u => slAt t j = true ∧ ∃ b cap, base = .slice (some ⟨b, 0, none⟩) xs.length cap ∧ i < xs.length ∧ w.cell? ⟨b, i * t.w + j, none⟩ = some u
  | .fz t true xs, .ns i j, u => slAt t j = true ∧ ∃ b cap, base = .slice (some ⟨b, 0, none⟩) xs.length cap ∧ i < xs.length ∧ w.cell? ⟨b, i * t.w + j, none⟩ = some u
  | _, _, _ => True
def seeO (w : World) (I : Nat → Prop) (ad : Nat × Nat) (base : Value) (L : List Nat) : Option Ob → Rf → Value → Prop
  | none, _, _ => False
  | some b, r, u => see w I ad base L b r u

def CR (w : World) (I : Nat → Prop) (g : Gh) (ob : Nat → Option Ob) : C → Value → Prop
  | .d t x, u => RT w I t x [u]
  | .rf o r, u => seeO w I (g.addr o) (g.base o) (g.L o) (ob o) r u
  | .pd t x j, u => PD w I t x j u
  | .pa t xs, u => PA w I t xs u
  | .fc fn caps, u => ∃ vs : List Value, u = .func (.func fn) #[] vs.toArray ∧ All2 (fun o v => seeO w I (g.addr o) (g.base o) (g.L o) (ob o) (.pb 0) v) caps vs
  | .sem φ, u => Sem0 φ ∧ φ w I u
  | .nl, u => u = .slice none 0 0
  | .np, u => u = .pointer none
  | .ni, u => u = .nilIface
  | .z, u => ∃ A, u = .slice A 0 0
  | .val v, u => u = v
  | .any, _ => True

/-- What stands fixed for one call: the world at entry, what was read then, the blocks handed in to be written, the cells of boxes handed in, where these lie, the slices handed in. -/
structure Ctx where
  w0 : World
  I0 : Nat → Prop
  X : Nat → Prop
  R : Nat → Nat → Prop
  E : Nat → Option (Nat × Nat)
  B : Nat → Option Value

structure Ctx.Fr (K : Ctx) (w : World) : Prop where
  os : w.os = K.w0.os
  tape : w.tape = K.w0.tape
  output : w.output = K.w0.output
  size : K.w0.heap.size ≤ w.heap.size
  old : ∀ b, b < K.w0.heap.size → ¬ K.X b → (∀ o, ¬ K.R b o) → w.heap[b]? = K.w0.heap[b]?
  part : ∀ b, b < K.w0.heap.size → ¬ K.X b → ∀ o, ¬ K.R b o → w.cell? ⟨b, o, none⟩ = K.w0.cell? ⟨b, o, none⟩
  froz : ∀ b, b < K.w0.heap.size → ¬ K.X b → ∀ o, w.frozen? ⟨b, o, none⟩ = K.w0.frozen? ⟨b, o, none⟩

/-- A box's cells. -/
def BoxR (K : Ctx) (w : World) (I : Nat → Prop) (g : Gh) (ob : Nat → Option Ob) (o : Nat) (cs : List C) : Prop :=
  ∀ (j : Nat) (c : C), cs[j]? = some c → ∃ u, w.cell? ⟨(g.addr o).1, (g.addr o).2 + j, none⟩ = some u ∧ w.frozen? ⟨(g.addr o).1, (g.addr o).2 + j, none⟩ = false ∧ u.oneCell' = true ∧
    ((g.addr o).1 < K.w0.heap.size → K.R (g.addr o).1 ((g.addr o).2 + j)) ∧ CR w I g ob c u

/-- An object, as it lies in memory. -/
def ObR (K : Ctx) (w : World) (I : Nat → Prop) (g : Gh) (ob : Nat → Option Ob) (o : Nat) : Prop :=
  match ob o with
  | none => g.L o = []
  | some .dead => g.L o = []
  | some (.cells cs) => g.L o = [(g.addr o).1] ∧ BoxR K w I g ob o cs
  | some (.rows e t dp xs) => OA w I dp e t xs (g.base o) (g.L o)
  | some (.fz t dp xs) => g.L o = [] ∧ RT w I (.sl t) xs [g.base o]

/-- May block b be written? -/
def Ctx.mine (K : Ctx) (b : Nat) : Prop := b < K.w0.heap.size → K.X b
/-- Is b a block of a box handed in? -/
def Ctx.ebox (K : Ctx) (o b : Nat) : Prop := ∃ a, K.E o = some a ∧ a.1 = b

structure Inv [Glob] (K : Ctx) (w : World) (I : Nat → Prop) (g : Gh) (σ : St) (tm : Array Value) : Prop where
  fr : K.Fr w
  size : tm.size = σ.n
  glob : GlobOK w I
  imm0 : ∀ b, K.I0 b → I b
  immX : ∀ b, I b → b < w.heap.size ∧ (b < K.w0.heap.size → K.I0 b ∨ K.X b)
  dis : ∀ o o' b, b ∈ g.L o → b ∈ g.L o' → o = o'
  nod : ∀ o, (g.L o).Nodup
  own : ∀ o b, b ∈ g.L o → ¬ I b ∧ b < w.heap.size ∧ (K.mine b ∨ K.ebox o b)
  ext : ∀ o a, K.E o = some a → o < 1000 ∧ ∀ q, σ.objs o = some q → g.addr o = a ∧ ¬ K.X a.1 ∧ a.1 < K.w0.heap.size ∧ ∃ cs, q = .cells cs
  exB : ∀ o v, K.B o = some v → o < 1000 ∧ ∀ q, σ.objs o = some q → g.base o = v
  obj : ∀ o, ObR K w I g σ.objs o
  shape : ∀ t, ShapeOK (σ.slots t) (tm.getD t undef)
  slot : ∀ (t i : Nat) (c : C), (σ.slots t).cells[i]? = some c → ∃ u, (valCells (tm.getD t undef))[i]? = some u ∧ CR w I g σ.objs c u

theorem beq_ne {a b : Nat} (h : a ≠ b) : Nat.beq a b = false := by
  cases hb : Nat.beq a b with
  | true => exact absurd (Nat.eq_of_beq_eq_true hb) h
  | false => rfl
theorem St.put_same (σ : St) (t : Nat) (s : SV) : (σ.put t s).slots t = s := by simp [St.put]
theorem St.put_other (σ : St) (t t' : Nat) (s : SV) (h : t' ≠ t) : (σ.put t s).slots t' = σ.slots t' := by simp [St.put, beq_ne h]
theorem St.setO_same (σ : St) (o : Nat) (b : Ob) : (σ.setO o b).objs o = some b := by simp [St.setO]
theorem St.setO_other (σ : St) (o o' : Nat) (b : Ob) (h : o' ≠ o) : (σ.setO o b).objs o' = σ.objs o' := by simp [St.setO, beq_ne h]

/-- A slot is written. -/
theorem Inv.put [Glob] {K : Ctx} {w : World} {I : Nat → Prop} {g : Gh} {σ : St} {tm : Array Value} (h : Inv K w I g σ tm) {t : Nat} {s : SV} {u : Value} (ht : t < σ.n)
    (hsh : ShapeOK s u) (hc : ∀ (i : Nat) (c : C), s.cells[i]? = some c → ∃ v, (valCells u)[i]? = some v ∧ CR w I g σ.objs c v) : Inv K w I g (σ.put t s) (tm.setIfInBounds t u) := by
  have hget : (tm.setIfInBounds t u).getD t undef = u := by
    have : t < tm.size := by rw [h.size]; exact ht
    simp [Array.getD_eq_getD_getElem?, this]
  have hoth : ∀ t', t' ≠ t → (tm.setIfInBounds t u).getD t' undef = tm.getD t' undef := fun t' hne => by
    simp [Array.getD_eq_getD_getElem?, Ne.symm hne]
  refine { h with
    size := by simpa [St.put] using h.size
    shape := fun t' => ?_
    slot := fun t' i c hi => ?_ }
  · by_cases e : t' = t
    · subst e; rw [St.put_same, hget]; exact hsh
    · rw [St.put_other _ _ _ _ e, hoth t' e]; exact h.shape t'
  · by_cases e : t' = t
    · subst e
      rw [St.put_same] at hi
      rw [hget]
      exact hc i c hi
    · rw [St.put_other _ _ _ _ e] at hi
      rw [hoth t' e]
      exact h.slot t' i c hi

/-! ### What a cell says, told anew -/
theorem PD.kept {w w' : World} {S S' : Nat → Prop} {t : Ty} {x : t.T} {j : Nat} {u : Value} (h : PD w S t x j u) (hS : ∀ b, S b → S' b) (hw : ∀ b, S b → ∀ o, w'.cell? ⟨b, o, none⟩ = w.cell? ⟨b, o, none⟩) : PD w' S' t x j u := by
  obtain ⟨b, o, us, e, hc, hr⟩ := h
  exact ⟨b, o, us, e, ⟨hS _ hc.1, fun j u hu => (hw _ hc.1 _).trans (hc.2 j u hu)⟩, hr.kept hS hw⟩
/-- An object's turn, as those that name it see it. -/
def Keep (w : World) (I : Nat → Prop) (g : Gh) (ob : Nat → Option Ob) (w' : World) (I' : Nat → Prop) (g' : Gh) (ob' : Nat → Option Ob) (o : Nat) : Prop :=
  ∀ r u, seeO w I (g.addr o) (g.base o) (g.L o) (ob o) r u → seeO w' I' (g'.addr o) (g'.base o) (g'.L o) (ob' o) r u

theorem CR.keep {w w' : World} {I I' : Nat → Prop} {g g' : Gh} {ob ob' : Nat → Option Ob} (hI : ∀ b, I b → I' b ∧ ∀ f, w'.cell? ⟨b, f, none⟩ = w.cell? ⟨b, f, none⟩) (hk : ∀ o, Keep w I g ob w' I' g' ob' o) {c : C} {u : Value}
    (h : CR w I g ob c u) : CR w' I' g' ob' c u := by
  have hI1 : ∀ b, I b → I' b := fun b hb => (hI b hb).1
  have hI2 : ∀ b, I b → ∀ f, w'.cell? ⟨b, f, none⟩ = w.cell? ⟨b, f, none⟩ := fun b hb => (hI b hb).2
  cases c with
  | d t x => exact RT.kept hI1 hI2 h
  | rf o r => exact hk o r u h
  | pd t x j => exact PD.kept h hI1 hI2
  | pa t xs => exact PA.kept h hI1 hI2
  | fc fn caps => obtain ⟨vs, e, ha⟩ := h; exact ⟨vs, e, ha.mono fun o _ v hv => hk o _ v hv⟩
  | sem φ => exact ⟨h.1, h.1 _ _ _ _ _ hI1 hI2 h.2⟩
  | nl => exact h
  | np => exact h
  | ni => exact h
  | z => exact h
  | val v => exact h
  | any => trivial

section
variable {w w' : World} {I I' : Nat → Prop} {ad ad' : Nat × Nat} {base base' : Value} {L L' : List Nat} {r : Rf} {u : Value}
theorem see_dead : see w I ad base L .dead r u := by cases r <;> trivial
/-- The object as it was; its blocks as they were. -/
theorem see_same {q : Ob} (hI : ∀ b, I b → I' b ∧ ∀ f, w'.cell? ⟨b, f, none⟩ = w.cell? ⟨b, f, none⟩) (hL : ∀ b, b ∈ L ∨ base.ownBlock = some b → (b ∈ L → b ∈ L') ∧ ∀ f, w'.cell? ⟨b, f, none⟩ = w.cell? ⟨b, f, none⟩)
    (h : see w I ad base L q r u) : see w' I' ad base L' q r u := by
  have k1 : ∀ {t : Ty} {x : t.T}, RT w (fun b => I b ∨ (b ∈ L ∧ base.ownBlock ≠ some b)) t x [u] → RT w' (fun b => I' b ∨ (b ∈ L' ∧ base.ownBlock ≠ some b)) t x [u] := fun h => h.kept (fun b hb => hb.elim (fun hb => .inl (hI b hb).1) fun hb => .inr ⟨(hL b (.inl hb.1)).1 hb.1, hb.2⟩) fun b hb => hb.elim (fun hb => (hI b hb).2) fun hb => (hL b (.inl hb.1)).2
  have k2 : ∀ {t : Ty} {x : t.T} {j : Nat}, PD w (fun b => I b ∨ (b ∈ L ∧ base.ownBlock ≠ some b)) t x j u → PD w' (fun b => I' b ∨ (b ∈ L' ∧ base.ownBlock ≠ some b)) t x j u := fun h => h.kept (fun b hb => hb.elim (fun hb => .inl (hI b hb).1) fun hb => .inr ⟨(hL b (.inl hb.1)).1 hb.1, hb.2⟩) fun b hb => hb.elim (fun hb => (hI b hb).2) fun hb => (hL b (.inl hb.1)).2
  have k3 : ∀ {t : Ty} {x : t.T}, RT w I t x [u] → RT w' I' t x [u] := fun h => h.kept (fun b hb => (hI b hb).1) fun b hb => (hI b hb).2
  have k4 : ∀ {t : Ty} {x : t.T} {j : Nat}, PD w I t x j u → PD w' I' t x j u := fun h => h.kept (fun b hb => (hI b hb).1) fun b hb => (hI b hb).2
  have k5 : ∀ {b n cap o : Nat} , base = .slice (some ⟨b, 0, none⟩) n cap → w.cell? ⟨b, o, none⟩ = some u → w'.cell? ⟨b, o, none⟩ = some u := fun he h => ((hL _ (.inr (by rw [he]; rfl))).2 _).trans h
  cases q with
  | dead => exact see_dead
  | cells cs => cases r <;> exact h
  | rows e t dp xs =>
    cases dp
    · cases r <;> exact h
    · cases r with
      | vw t x => exact k1 h
      | vp t x j => exact k2 h
      | ns i j => obtain ⟨h0, b, cap, h1, h2, h3⟩ := h; exact ⟨h0, b, cap, h1, h2, k5 h1 h3⟩
      | _ => exact h
  | fz t dp xs =>
    cases dp
    · cases r <;> exact h
    · cases r with
      | vw t x => exact k3 h
      | vp t x j => exact k4 h
      | ns i j => obtain ⟨h0, b, cap, h1, h2, h3⟩ := h; exact ⟨h0, b, cap, h1, h2, k5 h1 h3⟩
      | _ => exact h
/-- Its rows are told anew: cells of slices stay as they are. -/
theorem see_rows {e e' : TypeId} {t : Ty} {dp : Bool} {xs xs' : List t.T} (hl : xs'.length = xs.length) (hd : dp = true → (∀ b, (I b ∨ (b ∈ L ∧ base.ownBlock ≠ some b)) → (I' b ∨ (b ∈ L' ∧ base.ownBlock ≠ some b)) ∧ ∀ f, w'.cell? ⟨b, f, none⟩ = w.cell? ⟨b, f, none⟩) ∧
      ∀ b, base.ownBlock = some b → ∀ i j, slAt t j = true → w'.cell? ⟨b, i * t.w + j, none⟩ = w.cell? ⟨b, i * t.w + j, none⟩)
    (h : see w I ad base L (.rows e t dp xs) r u) : see w' I' ad' base L' (.rows e' t dp xs') r u := by
  cases dp with
  | false => cases r <;> first | exact h | trivial | (simp only [see] at h ⊢; rw [hl]; exact h)
  | true =>
    obtain ⟨hd, hc⟩ := hd rfl
    cases r with
    | ns i j => obtain ⟨h0, b, cap, h1, h2, h3⟩ := h; exact ⟨h0, b, cap, by rw [hl]; exact h1, by rw [hl]; exact h2, (hc b (by rw [h1]; rfl) i j h0).trans h3⟩
    | vw t x => exact RT.kept (fun b hb => (hd b hb).1) (fun b hb => (hd b hb).2) h
    | vp t x j => exact PD.kept h (fun b hb => (hd b hb).1) (fun b hb => (hd b hb).2)
    | _ => first | exact h | (simp only [see] at h ⊢; rw [hl]; exact h)
theorem see_fz {e : TypeId} {t : Ty} {dp : Bool} {xs : List t.T} (hd : ∀ b, (I b ∨ b ∈ L ∨ base.ownBlock = some b) → (I b ∨ b ∈ L → I' b) ∧ ∀ f, w'.cell? ⟨b, f, none⟩ = w.cell? ⟨b, f, none⟩)
    (h : see w I ad base L (.rows e t dp xs) r u) : see w' I' ad' base L' (.fz t dp xs) r u := by
  cases dp with
  | false => cases r <;> first | exact h | trivial
  | true =>
    cases r with
    | ns i j => obtain ⟨h0, b, cap, h1, h2, h3⟩ := h; exact ⟨h0, b, cap, h1, h2, ((hd b (.inr (.inr (by rw [h1]; rfl)))).2 _).trans h3⟩
    | vw t x => exact RT.kept (fun b hb => (hd b (hb.elim .inl fun hb => .inr (.inl hb.1))).1 (hb.imp id fun hb => hb.1)) (fun b hb => (hd b (hb.elim .inl fun hb => .inr (.inl hb.1))).2) h
    | vp t x j => exact PD.kept h (fun b hb => (hd b (hb.elim .inl fun hb => .inr (.inl hb.1))).1 (hb.imp id fun hb => hb.1)) (fun b hb => (hd b (hb.elim .inl fun hb => .inr (.inl hb.1))).2)
    | _ => exact h
/-- Owned down to the ground no more. -/
theorem see_shallow {e e' : TypeId} {t : Ty} {dp : Bool} {xs : List t.T} (h : see w I ad base L (.rows e t dp xs) r u) : see w' I' ad' base L' (.rows e' t false xs) r u := by
  cases dp <;> cases r <;> first | exact h | trivial
theorem see_cells {cs cs' : List C} (hl : cs'.length = cs.length) (h : see w I ad base L (.cells cs) r u) : see w' I' ad base' L' (.cells cs') r u := by
  cases r <;> first | exact h | trivial | (simp only [see] at h ⊢; rw [hl]; exact h)
end
end Go.LX
