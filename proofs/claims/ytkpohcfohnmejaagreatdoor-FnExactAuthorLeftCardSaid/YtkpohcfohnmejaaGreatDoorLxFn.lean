/- A part of the proof of the statement in the row text. -/
import Derived.Test.YtkpohcfohnmejaaGreatDoorLxElt
/- What a function is handed and what it hands back; how its body begins. -/
set_option linter.unusedVariables false
set_option linter.unusedSimpArgs false
namespace Go.LX

variable {P : Program} {σ : St}

/-- A cell as it is handed over: data; an owned slice; whatever. -/
inductive S0 where
  | d (t : Ty) (x : t.T)
  | own (e : TypeId) (t : Ty) (dp : Bool) (xs : List t.T)
  | any
  deriving Inhabited
/-- An argument: a cell; a struct; a pointer to a box that may be written; a value known by a fact. -/
inductive SA where
  | c (s : S0)
  | ag (ss : List S0)
  | bx (ss : List S0)
  | sem (φ : World → (Nat → Prop) → Value → Prop)
  | pd (t : Ty) (x : t.T)
  | nl
  deriving Inhabited
/-- A function's value, what it has captured: pointers to data that stands fixed. -/
def clS (f : FuncId) (caps : List (Σ t : Ty, t.T)) : World → (Nat → Prop) → Value → Prop := fun w I u => ∃ vs : List Value, u = .func (.func f) #[] vs.toArray ∧ All2 (fun c v => PD w I c.1 c.2 0 v) caps vs
theorem clS_kept {f : FuncId} {caps : List (Σ t : Ty, t.T)} : Sem0 (clS f caps) := by
  rintro w w' I I' u hI hw ⟨vs, e, h⟩
  exact ⟨vs, e, h.mono fun c _ v hv => hv.kept hI hw⟩
inductive RS where
  | one (s : S0)
  | ag (ss : List S0)
  | tu (xs : List (Bool × List S0))
  deriving Inhabited

def SR (w : World) (I : Nat → Prop) : S0 → Value → List Nat → Prop
  | .d t x, u, L => L = [] ∧ RT w I t x [u]
  | .own e t dp xs, u, L => OA w I dp e t xs u L
  | .any, u, L => L = [] ∧ u.oneCell' = true
/-- Cells, one behind the other. -/
def SRs (w : World) (I : Nat → Prop) : List S0 → List Value → List Nat → Prop := Rows fun s us L => ∃ u, us = [u] ∧ SR w I s u L
def AR (w : World) (I : Nat → Prop) : SA → Value → List Nat → List (Nat × Nat × Nat) → Prop
  | .c s, u, L, B => B = [] ∧ SR w I s u L
  | .ag ss, u, L, B => B = [] ∧ ∃ us : List Value, u = .agg us.toArray ∧ SRs w I ss us L
  | .bx ss, u, L, B => ∃ b f us, u = .pointer (some ⟨b, f, none⟩) ∧ B = [(b, f, ss.length)] ∧ SRs w I ss us L ∧ ∀ j v, us[j]? = some v → w.cell? ⟨b, f + j, none⟩ = some v ∧ w.frozen? ⟨b, f + j, none⟩ = false
  | .sem φ, u, L, B => L = [] ∧ B = [] ∧ u.oneCell' = true ∧ Sem0 φ ∧ φ w I u
  | .pd t x, u, L, B => L = [] ∧ B = [] ∧ PD w I t x 0 u
  | .nl, u, L, B => L = [] ∧ B = [] ∧ u = .slice none 0 0
def ARs (w : World) (I : Nat → Prop) : List SA → List Value → List Nat → List (Nat × Nat × Nat) → Prop
  | [], [], L, B => L = [] ∧ B = []
  | a :: as, u :: us, L, B => ∃ L1 L2 B1 B2, L = L1 ++ L2 ∧ B = B1 ++ B2 ∧ AR w I a u L1 B1 ∧ ARs w I as us L2 B2
  | _, _, _, _ => False

def RS.cells : RS → List S0
  | .one s => [s]
  | .ag ss => ss
  | .tu xs => xs.flatMap (·.2)
def RS.sv : RS → SV
  | .one _ => .one .any
  | .ag ss => .ag (ss.map fun _ => .any)
  | .tu xs => .tu (xs.map fun x => (x.1, x.2.map fun _ => .any))
def RR0 (w : World) (I : Nat → Prop) (r : RS) (v : Value) (L : List Nat) : Prop := ShapeOK r.sv v ∧ SRs w I r.cells (valCells v) L

/-- The world w' is w but for the blocks L, the cells B and new blocks. -/
structure FrameC (w w' : World) (L : List Nat) (B : List (Nat × Nat × Nat)) : Prop where
  os : w'.os = w.os
  tape : w'.tape = w.tape
  output : w'.output = w.output
  size : w.heap.size ≤ w'.heap.size
  old : ∀ b, b < w.heap.size → b ∉ L → b ∉ B.map (·.1) → w'.heap[b]? = w.heap[b]?
  part : ∀ b, b < w.heap.size → b ∉ L → ∀ f, (∀ r ∈ B, ¬ (r.1 = b ∧ r.2.1 ≤ f ∧ f < r.2.1 + r.2.2)) → w'.cell? ⟨b, f, none⟩ = w.cell? ⟨b, f, none⟩
  froz : ∀ b, b < w.heap.size → b ∉ L → ∀ f, w'.frozen? ⟨b, f, none⟩ = w.frozen? ⟨b, f, none⟩

/-- What the function f does: handed args, it leaves post of them and returns res. -/
def FnPost (args post : List SA) (res : RS) (w : World) (I : Nat → Prop) (vals : List Value) (L : List Nat) (B : List (Nat × Nat × Nat)) (e : Ending) (w' : World) : Prop :=
  ∃ v, e = .returned v ∧ FrameC w w' L B ∧ ∃ (I' : Nat → Prop) (L' Lr : List Nat), (∀ b, I b → I' b) ∧ (∀ b, I' b → b < w'.heap.size ∧ (b < w.heap.size → I b ∨ b ∈ L)) ∧
    ARs w' I' post vals L' B ∧ RR0 w' I' res v Lr ∧ (L' ++ Lr).Nodup ∧ ∀ b ∈ L' ++ Lr, ¬ I' b ∧ b ∉ B.map (·.1) ∧ b < w'.heap.size ∧ (b < w.heap.size → b ∈ L)
def FnC [Glob] (P : Program) (f : FuncId) (args post : List SA) (res : RS) : Prop :=
  ∀ (w : World) (I : Nat → Prop) (vals : List Value) (L : List Nat) (B : List (Nat × Nat × Nat)), (∀ b, I b → b < w.heap.size) ∧ GlobOK w I → ARs w I args vals L B → (L ++ B.map (·.1)).Nodup → (∀ b ∈ L ++ B.map (·.1), ¬ I b ∧ b < w.heap.size) →
    Calls P f vals.toArray w (FnPost args post res w I vals L B)

/-! ### The beginning of a body -/
def cellE (id : Nat) : S0 → C
  | .d t x => .d t x
  | .own .. => .rf id .ar
  | .any => .any
def enC : Nat → List S0 → St → St
  | _, [], σ => σ
  | id, .own e t dp xs :: r, σ => enC (id + 1) r (σ.setO id (.rows e t dp xs))
  | id, _ :: r, σ => enC (id + 1) r σ
def enL : Nat → List S0 → List C
  | _, [] => []
  | id, s :: r => cellE id s :: enL (id + 1) r
def enA (p : Nat) : SA → St → St
  | .c s, σ => (enC (16 * p + 1) [s] σ).put p (.one (cellE (16 * p + 1) s))
  | .ag ss, σ => (enC (16 * p + 1) ss σ).put p (.ag (enL (16 * p + 1) ss))
  | .bx ss, σ => ((enC (16 * p + 1) ss σ).setO (16 * p) (.cells (enL (16 * p + 1) ss))).put p (.one (.rf (16 * p) (.pb 0)))
  | .sem φ, σ => σ.put p (.one (.sem φ))
  | .pd t x, σ => σ.put p (.one (.pd t x 0))
  | .nl, σ => σ.put p (.one .nl)
def enAll : Nat → List SA → St → St
  | _, [], σ => σ
  | p, a :: r, σ => enAll (p + 1) r (enA p a σ)
def St.enter (n : Nat) (args : List SA) : St := enAll 0 args ⟨n, fun _ => .un, fun _ => none⟩

section
variable {K : Ctx} {w : World} {I : Nat → Prop} {g : Gh} {tm : Array Value}
theorem see_off [Glob] (hi : Inv K w I g σ tm) {o : Nat} (ho : σ.objs o = none) {ad : Nat × Nat} {base : Value} {L : List Nat} {q : Ob} {c : C} {u : Value} (h : CR w I g σ.objs c u) : CR w I (g.setO o ad base L) (σ.setO o q).objs c u := by
  refine h.keep (fun b hb => ⟨hb, fun _ => rfl⟩) fun x r v hs => ?_
  by_cases ex : x = o
  · subst ex; rw [ho] at hs; exact hs.elim
  · obtain ⟨e1, e2, e3⟩ := Gh.setO_ne (g := g) (ad := ad) (base := base) (L := L) ex
    rw [e1, e2, e3, St.setO_other _ _ _ _ ex]; exact hs
theorem SR.one {s : S0} {u : Value} {L : List Nat} (h : SR w I s u L) : u.oneCell' = true := by
  cases s with
  | d t x => exact h.2.one u (by simp)
  | own e t dp xs => exact (OA.rt h).one u (by simp)
  | any => exact h.2
theorem enC_ok [Glob] : ∀ {ss : List S0} {us : List Value} {L : List Nat} {id : Nat} {σ : St} {g : Gh}, Inv K w I g σ tm → SRs w I ss us L → L.Nodup → (∀ b ∈ L, Free K I g b) →
    (∀ k, id ≤ k → k < id + ss.length → σ.objs k = none ∧ (∀ a, K.E k ≠ some a) ∧ ∀ v, K.B k = some v → us[k - id]? = some v) →
    ∃ g', Inv K w I g' (enC id ss σ) tm ∧ (∀ b, (∀ x, b ∉ g.L x) → b ∉ L → ∀ x, b ∉ g'.L x) ∧ (∀ c u, CR w I g σ.objs c u → CR w I g' (enC id ss σ).objs c u) ∧
      (∀ (j : Nat) (c : C), (enL id ss)[j]? = some c → ∃ u, us[j]? = some u ∧ u.oneCell' = true ∧ CR w I g' (enC id ss σ).objs c u) ∧ (enC id ss σ).slots = σ.slots ∧ (enC id ss σ).n = σ.n ∧ (∀ k, k < id ∨ id + ss.length ≤ k → (enC id ss σ).objs k = σ.objs k ∧ g'.addr k = g.addr k) ∧ us.length = ss.length
  | [], us, L, id, σ, g, hi, h, _, _, _ => by
    obtain ⟨rfl, rfl⟩ := h
    exact ⟨g, hi, fun _ h _ => h, fun _ _ h => h, fun j c hj => by simp [enL] at hj, rfl, rfl, fun _ _ => ⟨rfl, rfl⟩, rfl⟩
  | s :: ss, us, L, id, σ, g, hi, h, hnd, hf, hk => by
    obtain ⟨u1, us2, L1, L2, rfl, rfl, ⟨u, rfl, hs⟩, h2⟩ := h
    have hone := hs.one
    obtain ⟨hid, hE, hB⟩ := hk id (Nat.le_refl _) (by simp)
    rw [List.nodup_append] at hnd
    obtain ⟨nd1, nd2, nd3⟩ := hnd
    have step : ∀ (σ1 : St) (g1 : Gh), Inv K w I g1 σ1 tm → (∀ b, (∀ x, b ∉ g.L x) → b ∉ L1 → ∀ x, b ∉ g1.L x) → (∀ c u, CR w I g σ.objs c u → CR w I g1 σ1.objs c u) → CR w I g1 σ1.objs (cellE id s) u → σ1.slots = σ.slots → σ1.n = σ.n → (∀ k, k ≠ id → σ1.objs k = σ.objs k ∧ g1.addr k = g.addr k) → enC id (s :: ss) σ = enC (id + 1) ss σ1 →
        ∃ g', Inv K w I g' (enC id (s :: ss) σ) tm ∧ (∀ b, (∀ x, b ∉ g.L x) → b ∉ L1 ++ L2 → ∀ x, b ∉ g'.L x) ∧ (∀ c u, CR w I g σ.objs c u → CR w I g' (enC id (s :: ss) σ).objs c u) ∧
      (∀ (j : Nat) (c : C), (enL id (s :: ss))[j]? = some c → ∃ v, ([u] ++ us2)[j]? = some v ∧ v.oneCell' = true ∧ CR w I g' (enC id (s :: ss) σ).objs c v) ∧ (enC id (s :: ss) σ).slots = σ.slots ∧ (enC id (s :: ss) σ).n = σ.n ∧ (∀ k, k < id ∨ id + (s :: ss).length ≤ k → (enC id (s :: ss) σ).objs k = σ.objs k ∧ g'.addr k = g.addr k) ∧ ([u] ++ us2).length = (s :: ss).length := by
      intro σ1 g1 hi1 hf1 hc1 hcell hsl hn hob he
      obtain ⟨g', r1, r2, r3, r4, r5, r6, r7, r8⟩ := enC_ok (id := id + 1) hi1 h2 nd2 (fun b hb => ⟨(hf b (by simp [hb])).i, hf1 b (hf b (by simp [hb])).l fun hb1 => nd3 b hb1 b hb rfl, (hf b (by simp [hb])).m⟩) fun k hk1 hk2 => by
        obtain ⟨q1, q2, q3⟩ := hk k (by omega) (by simp; omega)
        refine ⟨by rw [(hob k (by omega)).1]; exact q1, q2, fun v hv => ?_⟩
        have := q3 v hv
        rw [show k - id = (k - (id + 1)) + 1 by omega] at this
        simpa using this
      rw [he]
      refine ⟨g', r1, fun b hb hb' => r2 b (hf1 b hb fun h => hb' (by simp [h])) fun h => hb' (by simp [h]), fun c u h => r3 c u (hc1 c u h), fun j c hj => ?_, r5.trans hsl, r6.trans hn, fun k hk' => ?_, by simp [r8]⟩
      · cases j with
        | zero => simp [enL] at hj; subst hj; exact ⟨u, rfl, hone, r3 _ _ hcell⟩
        | succ j =>
          obtain ⟨v, q1, q2⟩ := r4 j c (by simpa [enL] using hj)
          exact ⟨v, by simpa using q1, q2⟩
      · simp only [List.length_cons] at hk'
        obtain ⟨q1, q2⟩ := r7 k (by omega)
        obtain ⟨q3, q4⟩ := hob k (by omega)
        exact ⟨q1.trans q3, q2.trans q4⟩
    cases s with
    | d t x => exact step σ g hi (fun _ h _ => h) (fun _ _ h => h) hs.2 rfl rfl (fun _ _ => ⟨rfl, rfl⟩) rfl
    | any => exact step σ g hi (fun _ h _ => h) (fun _ _ h => h) trivial rfl rfl (fun _ _ => ⟨rfl, rfl⟩) rfl
    | own e t dp xs =>
      have hB' : ∀ v, K.B id = some v → u = v := fun v hv => by
        have := hB v hv
        simpa using this
      have hnew := hi.newRows (o := id) hid hB' hE nd1 (fun b hb => hf b (by simp [hb])) hs
      refine step _ _ hnew (fun b hb hb1 x hx => ?_) (fun c v h => see_off hi hid h) ?_ rfl rfl (fun k hk => ⟨St.setO_other _ _ _ _ hk, (Gh.setO_ne hk).1⟩) rfl
      · by_cases ex : x = id
        · subst ex; rw [Gh.setO_eq.2.2] at hx; exact hb1 hx
        · rw [(Gh.setO_ne ex).2.2] at hx; exact hb x hx
      · show seeO _ _ _ _ _ ((σ.setO _ _).objs _) _ _
        rw [St.setO_same, Gh.setO_eq.2.1]
        rfl
/-- A slot is told what it holds. -/
theorem Inv.tell [Glob] (hi : Inv K w I g σ tm) {t : Nat} {s : SV} (ht : t < σ.n) (hs : ShapeOK s (tm.getD t undef)) (hc : ∀ (i : Nat) (c : C), s.cells[i]? = some c → ∃ v, (valCells (tm.getD t undef))[i]? = some v ∧ CR w I g σ.objs c v) : Inv K w I g (σ.put t s) tm := by
  have e : tm.setIfInBounds t (tm.getD t undef) = tm := by
    have hlt : t < tm.size := by rw [hi.size]; exact ht
    refine Array.ext (by simp) fun i h1 h2 => ?_
    rw [Array.getElem_setIfInBounds (by simpa using h1)]
    split
    · rename_i he
      subst he
      simp [Array.getD_eq_getD_getElem?, hlt]
    · rfl
  have := hi.put ht hs hc
  rw [e] at this
  exact this
/-- A box that was handed in. -/
theorem Inv.xbox [Glob] (hi : Inv K w I g σ tm) {o b f : Nat} {cs : List C} {us : List Value} (ho : σ.objs o = none) (hE : K.E o = some (b, f)) (hB : ∀ v, K.B o ≠ some v) (hX : ¬ K.X b) (hI : ¬ I b) (hb : b < w.heap.size) (hb0 : b < K.w0.heap.size) (hL : ∀ x, b ∉ g.L x)
    (hR : ∀ j, j < cs.length → K.R b (f + j)) (hc : ∀ (j : Nat) (c : C), cs[j]? = some c → ∃ u, us[j]? = some u ∧ u.oneCell' = true ∧ CR w I g σ.objs c u) (hu : ∀ j v, us[j]? = some v → w.cell? ⟨b, f + j, none⟩ = some v ∧ w.frozen? ⟨b, f + j, none⟩ = false) :
    Inv K w I (g.setO o (b, f) (g.base o) [b]) (σ.setO o (.cells cs)) tm := by
  have hkeep : ∀ {c : C} {u : Value}, CR w I g σ.objs c u → CR w I (g.setO o (b, f) (g.base o) [b]) (σ.setO o (.cells cs)).objs c u := fun h => see_off hi ho h
  have hob : ObR K w I (g.setO o (b, f) (g.base o) [b]) (σ.setO o (.cells cs)).objs o := by
    unfold ObR; rw [St.setO_same]; rw [Gh.setO_eq.1, Gh.setO_eq.2.2]
    refine ⟨rfl, fun j c hj => ?_⟩
    rw [Gh.setO_eq.1]
    obtain ⟨u, h1, h2, h3⟩ := hc j c hj
    obtain ⟨q1, q2⟩ := hu j u h1
    exact ⟨u, q1, q2, h2, fun _ => hR j (List.getElem?_eq_some_iff.1 hj).1, hkeep h3⟩
  refine hi.change rfl rfl hi.fr (fun b hb => ⟨hb, fun _ => rfl⟩) hi.immX (fun x r v hs => ?_) ?_ ?_ ?_ ?_ ?_ fun x => ?_
  · by_cases ex : x = o
    · subst ex; rw [ho] at hs; exact hs.elim
    · obtain ⟨e1, e2, e3⟩ := Gh.setO_ne (g := g) (ad := (b, f)) (base := g.base o) (L := [b]) ex
      rw [e1, e2, e3, St.setO_other _ _ _ _ ex]; exact hs
  · intro x y c hx hy
    by_cases ex : x = o
    · by_cases ey : y = o
      · rw [ex, ey]
      · rw [ex, Gh.setO_eq.2.2] at hx
        rw [(Gh.setO_ne ey).2.2] at hy
        simp at hx; subst hx
        exact absurd hy (hL y)
    · rw [(Gh.setO_ne ex).2.2] at hx
      by_cases ey : y = o
      · rw [ey, Gh.setO_eq.2.2] at hy
        simp at hy; subst hy
        exact absurd hx (hL x)
      · rw [(Gh.setO_ne ey).2.2] at hy
        exact hi.dis x y c hx hy
  · intro x
    by_cases ex : x = o
    · rw [ex, Gh.setO_eq.2.2]; simp
    · rw [(Gh.setO_ne ex).2.2]; exact hi.nod x
  · intro x c hx
    by_cases ex : x = o
    · rw [ex, Gh.setO_eq.2.2] at hx
      simp at hx; subst hx
      exact ⟨hI, hb, .inr ⟨_, by rw [ex]; exact hE, rfl⟩⟩
    · rw [(Gh.setO_ne ex).2.2] at hx; exact hi.own x c hx
  · intro x a hx
    refine ⟨(hi.ext x a hx).1, fun p hp => ?_⟩
    by_cases ex : x = o
    · subst ex
      rw [St.setO_same] at hp
      cases hp
      rw [hE] at hx
      cases hx
      rw [Gh.setO_eq.1]
      exact ⟨rfl, hX, hb0, _, rfl⟩
    · rw [St.setO_other _ _ _ _ ex] at hp
      rw [(Gh.setO_ne ex).1]; exact (hi.ext x a hx).2 p hp
  · intro x v hx
    refine ⟨(hi.exB x v hx).1, fun p hp => ?_⟩
    by_cases ex : x = o
    · subst ex; exact absurd hx (hB v)
    · rw [St.setO_other _ _ _ _ ex] at hp
      rw [(Gh.setO_ne ex).2.1]; exact (hi.exB x v hx).2 p hp
  · by_cases ex : x = o
    · subst ex; exact hob
    · obtain ⟨e1, e2, e3⟩ := Gh.setO_ne (g := g) (ad := (b, f)) (base := g.base o) (L := [b]) ex
      exact ObR.same (St.setO_other _ _ _ _ ex) e1 e2 e3 (fun b hb => ⟨hb, fun _ => rfl⟩) (fun _ _ => rfl) (fun x r v hs => by
        by_cases ex : x = o
        · subst ex; rw [ho] at hs; exact hs.elim
        · obtain ⟨e1, e2, e3⟩ := Gh.setO_ne (g := g) (ad := (b, f)) (base := g.base o) (L := [b]) ex
          rw [e1, e2, e3, St.setO_other _ _ _ _ ex]; exact hs) (hi.obj x)
end
end Go.LX

/- The state at a body's beginning. -/
set_option linter.unusedVariables false
set_option linter.unusedSimpArgs false
namespace Go.LX

variable {P : Program} {σ : St}

def SA.sz : SA → Nat
  | .c _ => 1
  | .ag ss => ss.length
  | .bx ss => ss.length
  | .sem _ => 0
  | .pd _ _ => 0
  | .nl => 0
def szsOK (args : List SA) : Bool := Nat.ble args.length 60 && args.all fun a => Nat.ble a.sz 14
def bxAt : Option SA → Option Value → Option (Nat × Nat)
  | some (.bx _), some (.pointer (some a)) => some (a.block, a.off)
  | _, _ => none
def ownAt : Option SA → Option Value → Nat → Option Value
  | some (.c (.own ..)), v, 0 => v
  | some (.ag ss), some (.agg us), j => match ss[j]? with
    | some (.own ..) => us[j]?
    | _ => none
  | _, _, _ => none
def KE (args : List SA) (vals : List Value) (k : Nat) : Option (Nat × Nat) := if k % 16 = 0 then bxAt args[k / 16]? vals[k / 16]? else none
def KB (args : List SA) (vals : List Value) (k : Nat) : Option Value := if k % 16 = 0 then none else ownAt args[k / 16]? vals[k / 16]? (k % 16 - 1)
def KOf (w : World) (I : Nat → Prop) (args : List SA) (vals : List Value) (L : List Nat) (B : List (Nat × Nat × Nat)) : Ctx :=
  ⟨w, I, fun b => b ∈ L, fun b f => ∃ r ∈ B, r.1 = b ∧ r.2.1 ≤ f ∧ f < r.2.1 + r.2.2, KE args vals, KB args vals⟩

section
variable {K : Ctx} {w : World} {I : Nat → Prop} {tm : Array Value}
theorem SRs.cells {ss : List S0} {us : List Value} {L : List Nat} (h : SRs w I ss us L) : us.length = ss.length ∧ ∀ u ∈ us, u.oneCell' = true := by
  constructor
  · have := Rows.len (k := 1) (R := fun s us L => ∃ u, us = [u] ∧ SR w I s u L) (fun _ _ _ ⟨_, h, _⟩ => by subst h; rfl) h
    simpa using this
  · exact rows_one (R := fun s us L => ∃ u, us = [u] ∧ SR w I s u L) (fun _ _ _ ⟨u, h, hs⟩ v hv => by subst h; simp at hv; subst hv; exact hs.one) h
theorem enL_len : ∀ {ss : List S0} {id : Nat}, (enL id ss).length = ss.length
  | [], _ => rfl
  | s :: ss, id => by simp [enL, enL_len (ss := ss) (id := id + 1)]

theorem enAll_ok [Glob] : ∀ {as : List SA} {us : List Value} {L : List Nat} {B : List (Nat × Nat × Nat)} {p : Nat} {σ : St} {g : Gh}, Inv K w I g σ tm → ARs w I as us L B → K.w0 = w → L.Nodup → (B.map (·.1)).Nodup → (∀ b ∈ L, Free K I g b ∧ b ∉ B.map (·.1)) →
    (∀ r ∈ B, ¬ I r.1 ∧ r.1 < w.heap.size ∧ ¬ K.X r.1 ∧ (∀ x, r.1 ∉ g.L x) ∧ ∀ f, r.2.1 ≤ f → f < r.2.1 + r.2.2 → K.R r.1 f) → (∀ k, 16 * p ≤ k → σ.objs k = none) → (as.all fun a => Nat.ble a.sz 14) = true → p + as.length ≤ σ.n → (∀ i u, us[i]? = some u → tm.getD (p + i) undef = u) →
    (∀ i, K.E (16 * (p + i)) = bxAt as[i]? us[i]?) → (∀ k, k % 16 ≠ 0 → K.E k = none) → (∀ i j, j < 15 → K.B (16 * (p + i) + 1 + j) = ownAt as[i]? us[i]? j) → (∀ k, k % 16 = 0 → K.B k = none) → ∃ g', Inv K w I g' (enAll p as σ) tm
  | [], [], _, _, _, _, g, hi, _, _, _, _, _, _, _, _, _, _, _, _, _, _ => ⟨g, hi⟩
  | [], _ :: _, _, _, _, _, _, _, h, _, _, _, _, _, _, _, _, _, _, _, _, _ => h.elim
  | _ :: _, [], _, _, _, _, _, _, h, _, _, _, _, _, _, _, _, _, _, _, _, _ => h.elim
  | a :: as, u :: us, L, B, p, σ, g, hi, h, hw0, hnd, hndB, hf, hBx, hob, hsz, hn, htm, hE, hE0, hB, hB0 => by
    obtain ⟨L1, L2, B1, B2, rfl, rfl, h1, h2⟩ := h
    rw [List.nodup_append] at hnd
    obtain ⟨nd1, nd2, nd3⟩ := hnd
    rw [List.map_append, List.nodup_append] at hndB
    obtain ⟨nb1, nb2, nb3⟩ := hndB
    simp only [List.all_cons, Bool.and_eq_true] at hsz
    obtain ⟨sz1, sz2⟩ := hsz
    have sz1 := Nat.le_of_ble_eq_true sz1
    simp only [List.length_cons] at hn
    have hu0 : tm.getD p undef = u := htm 0 u rfl
    have hEp : K.E (16 * p) = bxAt (some a) (some u) := by have := hE 0; simpa using this
    have hBp : ∀ j, j < 15 → K.B (16 * p + 1 + j) = ownAt (some a) (some u) j := fun j hj => by have := hB 0 j hj; simpa using this
    -- the rest, from a state told of this argument
    have rest : ∀ (σ1 : St) (g1 : Gh), Inv K w I g1 σ1 tm → enA p a σ = σ1 → (∀ b, (∀ x, b ∉ g.L x) → b ∉ L1 → b ∉ B1.map (·.1) → ∀ x, b ∉ g1.L x) → (∀ k, 16 * (p + 1) ≤ k → σ1.objs k = σ.objs k) → σ1.n = σ.n → ∃ g', Inv K w I g' (enAll p (a :: as) σ) tm := by
      intro σ1 g1 hi1 he hL1 hob1 hn1
      show ∃ g', Inv K w I g' (enAll (p + 1) as (enA p a σ)) tm
      rw [he]
      refine enAll_ok (p := p + 1) hi1 h2 hw0 nd2 nb2 (fun b hb => ?_) (fun r hr => ?_) (fun k hk => ?_) sz2 (by rw [hn1]; omega) (fun i v hv => ?_) (fun i => ?_) hE0 (fun i j hj => ?_) hB0
      · obtain ⟨q1, q2⟩ := hf b (by simp [hb])
        rw [List.map_append, List.mem_append, not_or] at q2
        exact ⟨⟨q1.i, hL1 b q1.l (fun h => nd3 b h b hb rfl) q2.1, q1.m⟩, q2.2⟩
      · obtain ⟨q1, q2, q3, q4, q5⟩ := hBx r (by simp [hr])
        exact ⟨q1, q2, q3, hL1 _ q4 (fun h => (hf r.1 (by simp [h])).2 (List.mem_map.2 ⟨r, by simp [hr], rfl⟩)) (fun h => nb3 _ h _ (List.mem_map.2 ⟨r, hr, rfl⟩) rfl), q5⟩
      · rw [hob1 k hk]; exact hob k (by omega)
      · have := htm (i + 1) v (by simpa using hv)
        rw [← this]; congr 1; omega
      · have := hE (i + 1)
        rw [show 16 * (p + 1 + i) = 16 * (p + (i + 1)) by omega]; simpa using this
      · have := hB (i + 1) j hj
        rw [show 16 * (p + 1 + i) + 1 + j = 16 * (p + (i + 1)) + 1 + j by omega]; simpa using this
    have cells : ∀ {ss : List S0} {cs : List Value}, SRs w I ss cs L1 → ss.length ≤ 14 → (∀ j v, j < 15 → K.B (16 * p + 1 + j) = some v → cs[j]? = some v) →
        ∃ g', Inv K w I g' (enC (16 * p + 1) ss σ) tm ∧ (∀ b, (∀ x, b ∉ g.L x) → b ∉ L1 → ∀ x, b ∉ g'.L x) ∧ (∀ (j : Nat) (c : C), (enL (16 * p + 1) ss)[j]? = some c → ∃ u, cs[j]? = some u ∧ u.oneCell' = true ∧ CR w I g' (enC (16 * p + 1) ss σ).objs c u) ∧ (enC (16 * p + 1) ss σ).n = σ.n ∧ (∀ k, k < 16 * p + 1 ∨ 16 * p + 1 + ss.length ≤ k → (enC (16 * p + 1) ss σ).objs k = σ.objs k) := by
      intro ss cs hs hl hb
      obtain ⟨g', r1, r2, r3, r4, r5, r6, r7, r8⟩ := enC_ok (id := 16 * p + 1) hi hs nd1 (fun b hb => (hf b (by simp [hb])).1) fun k hk1 hk2 => by
        refine ⟨hob k (by omega), fun a => by rw [hE0 k (by omega)]; simp, fun v hv => ?_⟩
        have := hb (k - (16 * p + 1)) v (by omega)
        rw [show 16 * p + 1 + (k - (16 * p + 1)) = k by omega] at this
        exact this hv
      exact ⟨g', r1, r2, r4, r6, fun k hk => (r7 k hk).1⟩
    cases a with
    | c s =>
      obtain ⟨rfl, hs⟩ := h1
      obtain ⟨g', r1, r2, r4, r6, r7⟩ := cells (ss := [s]) (cs := [u]) (Rows.single.2 ⟨u, rfl, hs⟩) (by simp) fun j v hj hv => by
        rw [hBp j hj] at hv
        cases j with
        | succ j => cases s <;> simp [ownAt] at hv
        | zero =>
          cases s <;> simp [ownAt] at hv
          rw [hv]; rfl
      obtain ⟨v, q1, q2, q3⟩ := r4 0 _ rfl
      simp at q1
      subst q1
      refine rest _ g' (r1.tell (t := p) (s := .one (cellE (16 * p + 1) s)) (by rw [r6]; omega) (by rw [hu0]; exact q2) fun i c hc => ?_) rfl (fun b hb h1 _ => r2 b hb h1) (fun k hk => r7 k (.inr (by simp; omega))) r6
      · obtain ⟨rfl, rfl⟩ := one_cell hc
        exact ⟨u, by rw [hu0, val_one q2]; rfl, q3⟩
    | ag ss =>
      have sz1 : ss.length ≤ 14 := sz1
      obtain ⟨rfl, cs, rfl, hs⟩ := h1
      obtain ⟨g', r1, r2, r4, r6, r7⟩ := cells hs sz1 fun j v hj hv => by
        rw [hBp j hj] at hv
        simp only [ownAt] at hv
        split at hv
        · simpa using hv
        · cases hv
      obtain ⟨k1, k2⟩ := hs.cells
      have hl : (enL (16 * p + 1) ss).length = ss.length := enL_len
      refine rest _ g' (r1.tell (t := p) (s := .ag (enL (16 * p + 1) ss)) (by rw [r6]; omega) (by rw [hu0]; exact ⟨cs, rfl, by rw [k1, hl], k2⟩) fun i c hc => ?_) rfl (fun b hb h1 _ => r2 b hb h1) (fun k hk => r7 k (.inr (by omega))) r6
      · obtain ⟨v, q1, q2, q3⟩ := r4 i c hc
        exact ⟨v, by rw [hu0]; simpa [valCells, Value.cells] using q1, q3⟩
    | bx ss =>
      have sz1 : ss.length ≤ 14 := sz1
      obtain ⟨b, f, cs, rfl, rfl, hs, hcell⟩ := h1
      obtain ⟨g', r1, r2, r4, r6, r7⟩ := cells hs sz1 fun j v hj hv => by rw [hBp j hj] at hv; cases hv
      obtain ⟨q1, q2, q3, q4, q5⟩ := hBx (b, f, ss.length) (by simp)
      have hbL : b ∉ L1 := fun h => (hf b (by simp [h])).2 (by simp)
      have hl : (enL (16 * p + 1) ss).length = ss.length := enL_len
      obtain ⟨k1, k2⟩ := hs.cells
      have hbox := r1.xbox (o := 16 * p) (b := b) (f := f) (cs := enL (16 * p + 1) ss) (us := cs) (by rw [r7 _ (.inl (by omega))]; exact hob _ (Nat.le_refl _)) hEp (fun v hv => by rw [hB0 _ (by omega)] at hv; cases hv) q3 q1 q2 (by rw [hw0]; exact q2) (r2 b q4 hbL)
        (fun j hj => q5 (f + j) (by simp) (by rw [hl] at hj; simp; omega)) r4 hcell
      refine rest _ _ (hbox.tell (t := p) (s := .one (.rf (16 * p) (.pb 0))) (by show p < (enC (16 * p + 1) ss σ).n; rw [r6]; omega) (by rw [hu0]; rfl) fun i c hc => ?_) rfl (fun b' hb' h1 h2 x hx => ?_) (fun k hk => ?_) r6
      · obtain ⟨rfl, rfl⟩ := one_cell hc
        refine ⟨_, by rw [hu0]; rfl, ?_⟩
        show seeO _ _ _ _ _ ((St.setO _ _ _).objs _) _ _
        rw [St.setO_same, Gh.setO_eq.1]
        rfl
      · by_cases ex : x = 16 * p
        · subst ex; rw [Gh.setO_eq.2.2] at hx; simp at hx; subst hx; exact h2 (by simp)
        · rw [(Gh.setO_ne ex).2.2] at hx; exact r2 b' hb' h1 x hx
      · show ((enC (16 * p + 1) ss σ).setO _ _).objs k = _
        rw [St.setO_other _ _ _ _ (by omega)]; exact r7 k (.inr (by omega))
    | sem φ =>
      obtain ⟨rfl, rfl, h1, h2', h3⟩ := h1
      refine rest _ g (hi.tell (t := p) (s := .one (.sem φ)) (by omega) (by rw [hu0]; exact h1) fun i c hc => ?_) rfl (fun b hb _ _ => hb) (fun _ _ => rfl) rfl
      obtain ⟨rfl, rfl⟩ := one_cell hc
      exact ⟨u, by rw [hu0, val_one h1]; rfl, h2', h3⟩
    | pd t x =>
      obtain ⟨rfl, rfl, h1⟩ := h1
      have hone : u.oneCell' = true := by obtain ⟨b, o, us, rfl, _⟩ := h1; rfl
      refine rest _ g (hi.tell (t := p) (s := .one (.pd t x 0)) (by omega) (by rw [hu0]; exact hone) fun i c hc => ?_) rfl (fun b hb _ _ => hb) (fun _ _ => rfl) rfl
      obtain ⟨rfl, rfl⟩ := one_cell hc
      exact ⟨u, by rw [hu0, val_one hone]; rfl, h1⟩
    | nl =>
      obtain ⟨rfl, rfl, rfl⟩ := h1
      refine rest _ g (hi.tell (t := p) (s := .one .nl) (by omega) (by rw [hu0]; rfl) fun i c hc => ?_) rfl (fun b hb _ _ => hb) (fun _ _ => rfl) rfl
      obtain ⟨rfl, rfl⟩ := one_cell hc
      exact ⟨_, by rw [hu0]; rfl, rfl⟩

theorem ARs.len {as : List SA} {us : List Value} {L : List Nat} {B : List (Nat × Nat × Nat)} (h : ARs w I as us L B) : as.length = us.length := by
  induction as generalizing us L B with
  | nil => cases us with
    | nil => rfl
    | cons => exact h.elim
  | cons a as ih => cases us with
    | nil => exact h.elim
    | cons u us => obtain ⟨_, _, _, _, _, _, _, h⟩ := h; simp [ih h]
theorem ARs.boxes {as : List SA} {us : List Value} {L : List Nat} {B : List (Nat × Nat × Nat)} (h : ARs w I as us L B) : True := trivial

theorem Inv.enter [Glob] {args : List SA} {vals : List Value} {L : List Nat} {B : List (Nat × Nat × Nat)} {n : Nat} (hI : ∀ b, I b → b < w.heap.size) (hG : GlobOK w I) (h : ARs w I args vals L B) (hnd : (L ++ B.map (·.1)).Nodup) (hf : ∀ b ∈ L ++ B.map (·.1), ¬ I b ∧ b < w.heap.size) (hsz : szsOK args = true) (hn : args.length ≤ n) :
    ∃ g, Inv (KOf w I args vals L B) w I g (St.enter n args) (vals.toArray ++ Array.replicate (n - vals.length) undef) := by
  have hl := h.len
  obtain ⟨s1, s2⟩ := Bool.and_eq_true_iff.1 hsz
  have s1 := Nat.le_of_ble_eq_true s1
  rw [List.nodup_append] at hnd
  obtain ⟨n1, n2, n3⟩ := hnd
  have hsome : ∀ {k : Nat} {x : SA}, args[k]? = some x → k < args.length := fun h => (List.getElem?_eq_some_iff.1 h).1
  have hE1000 : ∀ o a, KE args vals o = some a → o < 1000 := by
    intro o a ho
    unfold KE at ho
    split at ho
    · cases hx : args[o / 16]? with
      | none => rw [hx] at ho; simp [bxAt] at ho
      | some x => have := hsome hx; omega
    · cases ho
  have hB1000 : ∀ o a, KB args vals o = some a → o < 1000 := by
    intro o a ho
    unfold KB at ho
    split at ho
    · cases ho
    · cases hx : args[o / 16]? with
      | none => rw [hx] at ho; simp [ownAt] at ho
      | some x => have := hsome hx; omega
  have base : Inv (KOf w I args vals L B) w I ⟨fun _ => (0, 0), fun _ => undef, fun _ => []⟩ ⟨n, fun _ => .un, fun _ => none⟩ (vals.toArray ++ Array.replicate (n - vals.length) undef) := {
    fr := ⟨rfl, rfl, rfl, Nat.le_refl _, fun _ _ _ _ => rfl, fun _ _ _ _ _ => rfl, fun _ _ _ _ => rfl⟩
    size := by simp; omega
    glob := hG
    imm0 := fun _ h => h
    immX := fun b hb => ⟨hI b hb, fun _ => .inl hb⟩
    dis := fun o o' b hb => by simp at hb
    nod := fun _ => List.nodup_nil
    own := fun o b hb => by simp at hb
    ext := fun o a ho => ⟨hE1000 o a ho, fun q hq => by cases hq⟩
    exB := fun o a ho => ⟨hB1000 o a ho, fun q hq => by cases hq⟩
    obj := fun o => rfl
    shape := fun t => trivial
    slot := fun t i c hc => by simp [SV.cells] at hc }
  refine enAll_ok (p := 0) base h rfl n1 n2 (fun b hb => ⟨⟨(hf b (by simp [hb])).1, fun _ => by simp, fun _ => hb⟩, fun hb' => n3 b hb b hb' rfl⟩) (fun r hr => ?_) (fun _ _ => rfl) s2 (by simpa using hn) (fun i u hu => ?_) (fun i => ?_) (fun k hk => ?_) (fun i j hj => ?_) fun k hk => ?_
  · have hm : r.1 ∈ B.map (·.1) := List.mem_map.2 ⟨r, hr, rfl⟩
    obtain ⟨q1, q2⟩ := hf r.1 (by simp only [List.mem_append]; exact .inr hm)
    exact ⟨q1, q2, fun hx => n3 _ hx _ hm rfl, fun _ => by simp, fun f h1 h2 => ⟨r, hr, rfl, h1, h2⟩⟩
  · have hlt : i < vals.length := (List.getElem?_eq_some_iff.1 hu).1
    simp [Array.getD_eq_getD_getElem?, Array.getElem?_append, hlt] at hu ⊢
    simp [hu]
  · show KE args vals _ = _
    unfold KE
    rw [if_pos (by omega), show 16 * (0 + i) / 16 = i by omega]
  · show KE args vals _ = _
    unfold KE
    rw [if_neg hk]
  · show KB args vals _ = _
    unfold KB
    rw [if_neg (by omega), show (16 * (0 + i) + 1 + j) / 16 = i by omega, show (16 * (0 + i) + 1 + j) % 16 - 1 = j by omega]
  · show KB args vals _ = _
    unfold KB
    rw [if_pos hk]
end
end Go.LX

/- The end of a body: what it hands back; a function by its body. -/
set_option linter.unusedVariables false
set_option linter.unusedSimpArgs false
namespace Go.LX

variable {P : Program} {σ : St}

/-! ### Cells held against what they should be -/
def msP (ob : Nat → Option Ob) : S0 → C → Prop
  | .d t x, c => asT ob t c = some x
  | .own e t dp xs, .rf o .ar => ob o = some (.rows e t dp xs)
  | .own e t dp xs, .nl => xs = []
  | .any, _ => True
  | _, _ => False
def msO : S0 → C → List Nat
  | .own .., .rf o .ar => [o]
  | _, _ => []
def msPs (ob : Nat → Option Ob) : List S0 → List C → Prop
  | [], [] => True
  | s :: ss, c :: cs => msP ob s c ∧ msPs ob ss cs
  | _, _ => False
def msOs : List S0 → List C → List Nat
  | s :: ss, c :: cs => msO s c ++ msOs ss cs
  | _, _ => []
theorem msPs_len {ob : Nat → Option Ob} : ∀ {ss : List S0} {cs : List C}, msPs ob ss cs → ss.length = cs.length
  | [], [], _ => rfl
  | _ :: _, _ :: _, h => congrArg (· + 1) (msPs_len h.2)
  | [], _ :: _, h => h.elim
  | _ :: _, [], h => h.elim
theorem msPs_app {ob : Nat → Option Ob} : ∀ {ss ss' : List S0} {cs cs' : List C}, msPs ob ss cs → msPs ob ss' cs' → msPs ob (ss ++ ss') (cs ++ cs') ∧ msOs (ss ++ ss') (cs ++ cs') = msOs ss cs ++ msOs ss' cs'
  | [], _, [], _, _, h => ⟨h, rfl⟩
  | s :: ss, _, c :: cs, _, h, h' => by
    obtain ⟨q1, q2⟩ := msPs_app h.2 h'
    exact ⟨⟨h.1, q1⟩, by simp [msOs, q2]⟩
  | [], _, _ :: _, _, h, _ => h.elim
  | _ :: _, _, [], _, h, _ => h.elim
section
variable {K : Ctx} {w : World} {I : Nat → Prop} {g : Gh} {tm : Array Value}
theorem SR.of [Glob] (hi : Inv K w I g σ tm) {s : S0} {c : C} {u : Value} (h : msP σ.objs s c) (h1 : u.oneCell' = true) (hc : CR w I g σ.objs c u) : SR w I s u ((msO s c).flatMap g.L) := by
  cases s with
  | d t x => exact ⟨by cases c <;> rfl, asT_ok hi hc h⟩
  | any => exact ⟨by cases c <;> rfl, h1⟩
  | own e t dp xs =>
    cases c with
    | rf o r =>
      cases r with
      | ar =>
        have h : σ.objs o = some (.rows e t dp xs) := h
        have hc' : seeO w I (g.addr o) (g.base o) (g.L o) (σ.objs o) .ar u := hc
        rw [h] at hc'
        have hu : u = g.base o := hc'
        subst hu
        show OA w I dp e t xs (g.base o) _
        simp only [msO, List.flatMap_cons, List.flatMap_nil, List.append_nil]
        exact hi.rows h
      | _ => exact h.elim
    | nl =>
      have hx : xs = [] := h
      subst hx
      have hu : u = .slice none 0 0 := hc
      subst hu
      exact ⟨[], [], ownsR_nil w e t.w, ⟨rfl, rfl⟩, rfl⟩
    | _ => exact h.elim
theorem SRs.of [Glob] (hi : Inv K w I g σ tm) : ∀ {ss : List S0} {cs : List C} {us : List Value}, msPs σ.objs ss cs → us.length = cs.length → (∀ (j : Nat) (c : C), cs[j]? = some c → ∃ u, us[j]? = some u ∧ u.oneCell' = true ∧ CR w I g σ.objs c u) → SRs w I ss us ((msOs ss cs).flatMap g.L)
  | [], [], us, _, hl, _ => ⟨List.eq_nil_of_length_eq_zero hl, rfl⟩
  | s :: ss, c :: cs, [], _, hl, _ => by simp at hl
  | s :: ss, c :: cs, u :: us, h, hl, hc => by
    obtain ⟨v, q1, q2, q3⟩ := hc 0 c rfl
    simp at q1
    subst q1
    refine ⟨[u], us, _, _, rfl, by simp only [msOs, List.flatMap_append], ⟨u, rfl, SR.of hi h.1 q2 q3⟩, SRs.of hi h.2 (by simpa using hl) fun j c hj => ?_⟩
    obtain ⟨v, q1, q2⟩ := hc (j + 1) c (by simpa using hj)
    exact ⟨v, by simpa using q1, q2⟩
  | [], _ :: _, _, h, _, _ => h.elim
  | _ :: _, [], _, h, _, _ => h.elim
end

/-! ### Results -/
def resOf (P : Program) (σ : St) : ResultVar → Option (Bool × List C)
  | .tmp t => match σ.slots t with
    | .one c => some (false, [c])
    | .ag cs => some (true, cs)
    | _ => none
  | .cell a ty => match σ.slots a with
    | .one (.rf o (.pb c)) => match σ.objs o with
      | some (.cells cs) => match aggB P ty, sizeB P ty with
        | some true, some n => bif Nat.ble (c + n) cs.length then some (true, (cs.drop c).take n) else none
        | some false, _ => (cs[c]?).map fun x => (false, [x])
        | _, _ => none
      | _ => none
    | _ => none
def resSem (tm : Array Value) : ResultVar → Sem Value
  | .tmp t => pure (tm.getD t undef)
  | .cell a ty => do loadVar ty (← asAddr (tm.getD a undef))
def ValOf (w : World) (I : Nat → Prop) (g : Gh) (ob : Nat → Option Ob) (x : Bool × List C) (v : Value) : Prop :=
  (if x.1 = true then AggOK x.2.length v else v.oneCell' = true ∧ x.2.length = 1) ∧ ∀ (i : Nat) (c : C), x.2[i]? = some c → ∃ u, v.cells.toList[i]? = some u ∧ u.oneCell' = true ∧ CR w I g ob c u
section
variable {K : Ctx} {w : World} {I : Nat → Prop} {g : Gh} {tm : Array Value}
theorem res_val [Glob] (hi : Inv K w I g σ tm) {rv : ResultVar} {x : Bool × List C} (hx : resOf P σ rv = some x) : ∃ v, (resSem tm rv).run P w = .ok v w ∧ ValOf w I g σ.objs x v := by
  cases rv with
  | tmp t =>
    simp only [resOf] at hx
    have hs := hi.shape t
    have hc := hi.slot t
    cases hsl : σ.slots t with
    | one c =>
      simp only [hsl] at hx hs hc
      cases hx
      have h1 : (tm.getD t undef).oneCell' = true := hs
      have e : (tm.getD t undef).cells.toList = [tm.getD t undef] := by rw [← val_one h1]; revert h1; cases tm.getD t undef <;> simp [Value.oneCell', valCells]
      refine ⟨tm.getD t undef, rfl, ⟨h1, rfl⟩, fun i c' hc' => ?_⟩
      obtain ⟨rfl, rfl⟩ := get_single hc'
      obtain ⟨u, hu, hr⟩ := hc 0 c' rfl
      rw [val_one h1] at hu
      have hu' : tm.getD t undef = u := Option.some.inj hu
      rw [← hu'] at hr
      exact ⟨_, by rw [e]; rfl, h1, hr⟩
    | ag cs =>
      simp only [hsl] at hx hs hc
      cases hx
      obtain ⟨us, hus, hl, h1⟩ := hs
      refine ⟨tm.getD t undef, rfl, ⟨us, hus, hl, h1⟩, fun i c hc' => ?_⟩
      obtain ⟨u, hu, hr⟩ := hc i c hc'
      rw [hus] at hu ⊢
      have hu' : us[i]? = some u := by simpa [valCells, Value.cells] using hu
      exact ⟨u, by simpa [Value.cells] using hu', h1 u (List.mem_of_getElem? hu'), hr⟩
    | tu xs => simp [hsl] at hx
    | un => simp [hsl] at hx
  | cell a ty =>
    simp only [resOf] at hx
    split at hx
    · rename_i o c hsl
      split at hx
      · rename_i cs hq
        have hev : tm.getD a undef = .pointer (some ⟨(g.addr o).1, (g.addr o).2 + c, none⟩) := by
          have := (hi.ev_one (x := .tmp a) hsl).1
          have h' : seeO w I (g.addr o) (g.base o) (g.L o) (σ.objs o) (.pb c) (tm.getD a undef) := this
          rw [hq] at h'; exact h'
        have hbx := (hi.cells hq).2
        split at hx
        · rename_i n hag hsz
          cases hb : Nat.ble (c + n) cs.length with
          | false => rw [hb] at hx; cases hx
          | true =>
            rw [hb] at hx
            cases hx
            have hle := Nat.le_of_ble_eq_true hb
            obtain ⟨us, hul, hus⟩ := agg_of (cs := cs.drop c) (b := (g.addr o).1) (f := (g.addr o).2 + c) (w := w) (I := I) (g := g) (ob := σ.objs) (fun j c0 hj => by
              rw [List.getElem?_drop] at hj
              obtain ⟨v, q1, _, q3, _, q5⟩ := hbx _ c0 hj
              rw [Nat.add_assoc]
              exact ⟨v, q1, q3, q5⟩) n (by simp; omega)
            have h1 : ∀ v ∈ us, v.oneCell' = true := fun v hv => by
              obtain ⟨j, hj⟩ := List.mem_iff_getElem?.1 hv
              exact (hus j v hj).2.1
            refine ⟨.agg us.toArray, ?_, ?_, fun i c' hc' => ?_⟩
            · simp [resSem, hev, asAddr, run_loadVar_agg hag hsz hul fun j u h => (hus j u h).1]
            · simp only [if_true]; exact ⟨us, rfl, by rw [hul]; simp; omega, h1⟩
            · have hlt := (List.getElem?_eq_some_iff.1 hc').1
              have hiu : i < us.length := by simp at hlt; omega
              obtain ⟨_, q2, c0, q3, q4⟩ := hus i us[i] (List.getElem?_eq_getElem hiu)
              have : c0 = c' := by
                simp only at hc'
                rw [List.getElem?_take, if_pos (by omega), q3] at hc'
                exact Option.some.inj hc'
              subst this
              exact ⟨us[i], by simp [Value.cells, hiu], q2, q4⟩
        · rename_i hag
          simp only [Option.map_eq_some_iff] at hx
          obtain ⟨y, hy, rfl⟩ := hx
          obtain ⟨u, h1, _, h3, _, h5⟩ := hbx c y hy
          refine ⟨u, by simp [resSem, hev, asAddr, run_loadVar_one hag h1], by simpa using h3, fun i c' hc' => ?_⟩
          obtain ⟨rfl, rfl⟩ := get_single hc'
          exact ⟨u, by revert h3; cases u <;> simp [Value.oneCell', Value.cells], h3, h5⟩
        · cases hx
      · cases hx
    · cases hx
theorem run_resMap [Glob] (hi : Inv K w I g σ tm) : ∀ {rvs : List ResultVar} {xs : List (Bool × List C)}, rvs.mapM (resOf P σ) = some xs → ∃ vs, (rvs.mapM (resSem tm)).run P w = .ok vs w ∧ All2 (ValOf w I g σ.objs) xs vs
  | [], xs, h => by
    simp at h; subst h
    exact ⟨[], rfl, trivial⟩
  | rv :: rvs, xs, h => by
    rw [List.mapM_cons] at h
    cases h1 : resOf P σ rv with
    | none => simp [h1] at h
    | some x =>
      cases h2 : rvs.mapM (resOf P σ) with
      | none => simp [h1, h2] at h
      | some xs' =>
        simp [h1, h2] at h
        subst h
        obtain ⟨v, hv, hs⟩ := res_val (P := P) hi h1
        obtain ⟨vs, hvs, hall⟩ := run_resMap hi h2
        refine ⟨v :: vs, ?_, hs, hall⟩
        rw [List.mapM_cons, Sem.run_bind, hv]
        simp only [Result.andThen_ok, Sem.run_bind, hvs, Sem.run_pure]

/-- The results, held against what they should be. -/
def RsP (ob : Nat → Option Ob) : RS → List (Bool × List C) → Prop
  | .one s, [(false, [c])] => msP ob s c
  | .ag ss, [(true, cs)] => msPs ob ss cs
  | .tu xs, rs => rs.length ≠ 1 ∧ All2 (fun (x : Bool × List S0) (r : Bool × List C) => x.1 = r.1 ∧ msPs ob x.2 r.2) xs rs
  | _, _ => False
def RsO : RS → List (Bool × List C) → List Nat
  | .one s, [(false, [c])] => msO s c
  | .ag ss, [(true, cs)] => msOs ss cs
  | .tu xs, rs => msOs (xs.flatMap (·.2)) (rs.flatMap (·.2))
  | _, _ => []
theorem cells_len {x : Bool × List C} {v : Value} {w : World} {I : Nat → Prop} {g : Gh} {ob : Nat → Option Ob} (h : ValOf w I g ob x v) : v.cells.toList.length = x.2.length := by
  obtain ⟨h, _⟩ := h
  split at h
  · exact (agg_cells h).2.1
  · obtain ⟨h1, h2⟩ := h
    rw [h2]
    revert h1
    cases v <;> simp [Value.oneCell', Value.cells]
theorem run_results [Glob] (hi : Inv K w I g σ tm) {fn : Func} {rs : List (Bool × List C)} {res : RS} (h : fn.results.toList.mapM (resOf P σ) = some rs) (hr : RsP σ.objs res rs) :
    ∃ v, (results fn tm).run P w = .ok v w ∧ RR0 w I res v ((RsO res rs).flatMap g.L) := by
  obtain ⟨vs, hvs, hall⟩ := run_resMap (P := P) hi h
  have hrun : (results fn tm).run P w = .ok (if h : vs.toArray.size = 1 then vs.toArray[0] else .tuple vs.toArray) w := by
    have e : fn.results = fn.results.toList.toArray := by simp
    unfold results
    rw [e]
    simp only [List.mapM_toArray, Sem.run_bind, Sem.run_map, Sem.run_pure]
    exact congrArg (fun r : Result (List Value) => (r.andThen fun a w' => Result.ok a.toArray w').andThen fun a w' => Result.ok (if h : a.size = 1 then a[0] else Value.tuple a) w') hvs
  refine ⟨_, hrun, ?_⟩
  have hlen := hall.length
  cases res with
  | one s =>
    match rs, vs, hr, hall, hlen with
    | [(false, [c])], [v], hr, hall, _ =>
      have hv : v.oneCell' = true := by have := hall.1.1; simpa using this
      obtain ⟨u, q1, q2, q3⟩ := hall.1.2 0 c rfl
      have hu : u = v := by
        revert hv q1
        cases v <;> simp [Value.oneCell', Value.cells] <;> exact fun h => h.symm
      subst hu
      refine ⟨hv, ?_⟩
      show SRs w I [s] (valCells u) _
      rw [val_one hv]
      exact Rows.single.2 ⟨u, rfl, SR.of hi hr q2 q3⟩
  | ag ss =>
    match rs, vs, hr, hall, hlen with
    | [(true, cs)], [v], hr, hall, _ =>
      have hv : AggOK cs.length v := by have := hall.1.1; simpa using this
      obtain ⟨a1, a2, a3⟩ := agg_cells hv
      refine ⟨by show AggOK (ss.map _).length v; rw [List.length_map, msPs_len hr]; exact hv, ?_⟩
      show SRs w I ss (valCells v) _
      rw [a1]
      exact SRs.of hi hr a2 hall.1.2
  | tu xs =>
    obtain ⟨hne, hr⟩ := hr
    have hsz : ¬ vs.toArray.size = 1 := by simp; omega
    rw [dif_neg hsz]
    refine ⟨⟨vs, rfl, ?_⟩, ?_⟩
    · have key : ∀ (xs : List (Bool × List S0)) (rs : List (Bool × List C)) (vs : List Value), All2 (fun (x : Bool × List S0) (r : Bool × List C) => x.1 = r.1 ∧ msPs σ.objs x.2 r.2) xs rs → All2 (ValOf w I g σ.objs) rs vs →
          All2 (fun (x : Bool × List C) v => if x.1 = true then AggOK x.2.length v else v.oneCell' = true ∧ x.2.length = 1) (xs.map fun x => (x.1, x.2.map fun _ => C.any)) vs := by
        intro xs
        induction xs with
        | nil => intro rs vs h1 h2; cases rs with
          | nil => cases vs with
            | nil => trivial
            | cons => exact h2.elim
          | cons => exact h1.elim
        | cons x xs ih => intro rs vs h1 h2; cases rs with
          | nil => exact h1.elim
          | cons r rs => cases vs with
            | nil => exact h2.elim
            | cons v vs =>
              refine ⟨?_, ih rs vs h1.2 h2.2⟩
              have := h2.1.1
              obtain ⟨e1, e2⟩ := h1.1
              simp only [List.length_map, e1, msPs_len e2]
              exact this
      exact key xs rs vs hr hall
    · show SRs w I (xs.flatMap (·.2)) (vs.flatMap fun v => v.cells.toList) ((msOs (xs.flatMap (·.2)) (rs.flatMap (·.2))).flatMap g.L)
      have key : ∀ (xs : List (Bool × List S0)) (rs : List (Bool × List C)) (vs : List Value), All2 (fun (x : Bool × List S0) (r : Bool × List C) => x.1 = r.1 ∧ msPs σ.objs x.2 r.2) xs rs → All2 (ValOf w I g σ.objs) rs vs →
          msPs σ.objs (xs.flatMap (·.2)) (rs.flatMap (·.2)) ∧ (vs.flatMap fun v => v.cells.toList).length = (rs.flatMap (·.2)).length ∧ ∀ (j : Nat) (c : C), (rs.flatMap (·.2))[j]? = some c → ∃ u, (vs.flatMap fun v => v.cells.toList)[j]? = some u ∧ u.oneCell' = true ∧ CR w I g σ.objs c u := by
        intro xs
        induction xs with
        | nil => intro rs vs h1 h2; cases rs with
          | nil => cases vs with
            | nil => exact ⟨trivial, rfl, fun j c hj => by simp at hj⟩
            | cons => exact h2.elim
          | cons => exact h1.elim
        | cons x xs ih => intro rs vs h1 h2; cases rs with
          | nil => exact h1.elim
          | cons r rs => cases vs with
            | nil => exact h2.elim
            | cons v vs =>
              obtain ⟨i1, i2, i3⟩ := ih rs vs h1.2 h2.2
              have hcl := cells_len h2.1
              refine ⟨(msPs_app h1.1.2 i1).1, by simp only [List.flatMap_cons, List.length_append]; rw [hcl, i2], ?_⟩
              simp only [List.flatMap_cons]
              exact get_app (R := fun c u => u.oneCell' = true ∧ CR w I g σ.objs c u) hcl.symm (fun j c hj => h2.1.2 j c hj) (fun j c hj => i3 j c hj)
      obtain ⟨i1, i2, i3⟩ := key xs rs vs hr hall
      exact SRs.of hi i1 i2 i3

/-! ### What is left of the arguments -/
/-- Owned cells of a struct that was handed in, or of a cell: number id on. -/
def agP (ob : Nat → Option Ob) : Nat → List S0 → List S0 → Prop
  | _, [], [] => True
  | id, _ :: r, .any :: r' => agP ob (id + 1) r r'
  | id, .own .. :: r, .own e t dp xs :: r' => ob id = some (.rows e t dp xs) ∧ agP ob (id + 1) r r'
  | _, _, _ => False
def agO : Nat → List S0 → List Nat
  | _, [] => []
  | id, .own .. :: r => id :: agO (id + 1) r
  | id, _ :: r => agO (id + 1) r
def PoP (ob : Nat → Option Ob) (p : Nat) : SA → SA → Prop
  | .c s, .c s' => agP ob (16 * p + 1) [s] [s']
  | .sem _, .c .any => True
  | .pd _ _, .c .any => True
  | .nl, .c .any => True
  | .ag ss, .ag ss' => agP ob (16 * p + 1) ss ss'
  | .bx ss, .bx ss' => ss'.length = ss.length ∧ match ob (16 * p) with
    | some (.cells cs) => msPs ob ss' cs
    | _ => False
  | _, _ => False
def PoO (ob : Nat → Option Ob) (p : Nat) : SA → List Nat
  | .c s => agO (16 * p + 1) [s]
  | .ag ss => agO (16 * p + 1) ss
  | .bx ss => match ob (16 * p) with
    | some (.cells cs) => msOs ss cs
    | _ => []
  | .sem _ => []
  | .pd _ _ => []
  | .nl => []
def PoPs (ob : Nat → Option Ob) : Nat → List SA → List SA → Prop
  | _, [], [] => True
  | p, a :: as, b :: bs => PoP ob p a b ∧ PoPs ob (p + 1) as bs
  | _, _, _ => False
def PoOs (ob : Nat → Option Ob) : Nat → List SA → List Nat
  | _, [] => []
  | p, b :: bs => PoO ob p b ++ PoOs ob (p + 1) bs
def finX : Exit → Bool
  | .normal | .ret => true
  | _ => false
/-- What a body must end with. -/
def FnQ (P : Program) (fn : Func) (args post : List SA) (res : RS) (e : Exit) (σ : St) : Prop :=
  finX e = true ∧ PoPs σ.objs 0 args post ∧ ∃ rs, fn.results.toList.mapM (resOf P σ) = some rs ∧ RsP σ.objs res rs ∧ (PoOs σ.objs 0 post ++ RsO res rs).Nodup
def EndQ [Glob] (P : Program) (fn : Func) (args post : List SA) (res : RS) (e : Exit) (σ : St) : Prop := ∃ σ', Wk σ σ' ∧ FnQ P fn args post res e σ'

theorem agP_ok [Glob] (hi : Inv K w I g σ tm) {w0 : World} {I0 : Nat → Prop} : ∀ {ss ss' : List S0} {us : List Value} {L : List Nat} {id : Nat}, agP σ.objs id ss ss' → SRs w0 I0 ss us L → (∀ (j : Nat) (s : S0), ss[j]? = some s → (∃ e t dp xs, s = .own e t dp xs) → K.B (id + j) = us[j]?) → SRs w I ss' us ((agO id ss').flatMap g.L)
  | [], [], us, L, id, _, h, _ => ⟨h.1, rfl⟩
  | s :: ss, s' :: ss', us, L, id, h, hs, hB => by
    obtain ⟨u1, us2, L1, L2, rfl, rfl, ⟨u, rfl, h1⟩, h2⟩ := hs
    have hB' : ∀ (j : Nat) (s : S0), ss[j]? = some s → (∃ e t dp xs, s = .own e t dp xs) → K.B (id + 1 + j) = us2[j]? := fun j s hj ho => by
      have := hB (j + 1) s (by simpa using hj) ho
      rw [show id + 1 + j = id + (j + 1) by omega]; simpa using this
    cases s' with
    | any =>
      have h' : agP σ.objs (id + 1) ss ss' := by cases s <;> exact h
      exact ⟨[u], us2, [], _, rfl, rfl, ⟨u, rfl, rfl, h1.one⟩, agP_ok hi h' h2 hB'⟩
    | own e t dp xs =>
      cases s with
      | own e0 t0 dp0 xs0 =>
        obtain ⟨q1, q2⟩ := h
        have hb := hB 0 _ rfl ⟨_, _, _, _, rfl⟩
        rw [Nat.add_zero] at hb
        have hbase := (hi.exB id u hb).2 _ q1
        refine ⟨[u], us2, g.L id, _, rfl, by simp [agO], ⟨u, rfl, ?_⟩, agP_ok hi q2 h2 hB'⟩
        show OA w I dp e t xs u (g.L id)
        rw [← hbase]
        exact hi.rows q1
      | d t0 x0 => exact h.elim
      | any => exact h.elim
    | d t x => cases s <;> exact h.elim
  | [], _ :: _, _, _, _, h, _, _ => h.elim
  | _ :: _, [], _, _, _, h, _, _ => by
    rename_i s _ _ _ _ _
    cases s <;> exact h.elim
theorem PoPs_ok [Glob] (hi : Inv K w I g σ tm) {w0 : World} {I0 : Nat → Prop} : ∀ {as bs : List SA} {us : List Value} {L : List Nat} {B : List (Nat × Nat × Nat)} {p : Nat}, PoPs σ.objs p as bs → ARs w0 I0 as us L B → (∀ i, K.E (16 * (p + i)) = bxAt as[i]? us[i]?) → (∀ i j, j < 15 → K.B (16 * (p + i) + 1 + j) = ownAt as[i]? us[i]? j) → (as.all fun a => Nat.ble a.sz 14) = true →
    ARs w I bs us ((PoOs σ.objs p bs).flatMap g.L) B
  | [], [], us, L, B, p, _, h, _, _, _ => by
    cases us with
    | nil => exact ⟨rfl, h.2⟩
    | cons => exact h.elim
  | [], _ :: _, _, _, _, _, h, _, _, _, _ => h.elim
  | _ :: _, [], _, _, _, _, h, _, _, _, _ => h.elim
  | a :: as, b :: bs, us, L, B, p, h, hs, hE, hB, hsz => by
    cases us with
    | nil => exact hs.elim
    | cons u us =>
      obtain ⟨L1, L2, B1, B2, rfl, rfl, h1, h2⟩ := hs
      obtain ⟨q1, q2⟩ := h
      simp only [List.all_cons, Bool.and_eq_true] at hsz
      obtain ⟨sz1, sz2⟩ := hsz
      have sz1 := Nat.le_of_ble_eq_true sz1
      have rest := PoPs_ok hi (p := p + 1) q2 h2 (fun i => by have := hE (i + 1); rw [show 16 * (p + 1 + i) = 16 * (p + (i + 1)) by omega]; simpa using this) (fun i j hj => by have := hB (i + 1) j hj; rw [show 16 * (p + 1 + i) + 1 + j = 16 * (p + (i + 1)) + 1 + j by omega]; simpa using this) sz2
      have hEp : K.E (16 * p) = bxAt (some a) (some u) := by have := hE 0; simpa using this
      have hBp : ∀ j, j < 15 → K.B (16 * p + 1 + j) = ownAt (some a) (some u) j := fun j hj => by have := hB 0 j hj; simpa using this
      refine ⟨(PoO σ.objs p b).flatMap g.L, _, B1, B2, by simp [PoOs], rfl, ?_, rest⟩
      cases a with
      | c s =>
        obtain ⟨rfl, h1⟩ := h1
        cases b with
        | c s' =>
          have := agP_ok hi (us := [u]) q1 (Rows.single.2 ⟨u, rfl, h1⟩) fun j s0 hj ho => by
            obtain ⟨rfl, rfl⟩ := get_single hj
            obtain ⟨e, t, dp, xs, rfl⟩ := ho
            rw [hBp 0 (by omega)]; rfl
          obtain ⟨v, hv, hr⟩ := Rows.single.1 this
          cases hv
          exact ⟨rfl, hr⟩
        | _ => exact q1.elim
      | nl =>
        obtain ⟨rfl, rfl, rfl⟩ := h1
        cases b with
        | c s' => cases s' with
          | any => exact ⟨rfl, rfl, rfl⟩
          | _ => exact q1.elim
        | _ => exact q1.elim
      | pd t x =>
        obtain ⟨rfl, rfl, h1⟩ := h1
        have hone : u.oneCell' = true := by obtain ⟨b, o, us, rfl, _⟩ := h1; rfl
        cases b with
        | c s' => cases s' with
          | any => exact ⟨rfl, rfl, hone⟩
          | _ => exact q1.elim
        | _ => exact q1.elim
      | sem φ =>
        obtain ⟨rfl, rfl, h1, _⟩ := h1
        cases b with
        | c s' => cases s' with
          | any => exact ⟨rfl, rfl, h1⟩
          | _ => exact q1.elim
        | _ => exact q1.elim
      | ag ss =>
        obtain ⟨rfl, cs, rfl, h1⟩ := h1
        have sz1 : ss.length ≤ 14 := sz1
        cases b with
        | ag ss' =>
          refine ⟨rfl, cs, rfl, agP_ok hi q1 h1 fun j s0 hj ho => ?_⟩
          have := (List.getElem?_eq_some_iff.1 hj).1
          obtain ⟨e, t, dp, xs, rfl⟩ := ho
          rw [hBp j (by omega)]
          simp [ownAt, hj]
        | _ => exact q1.elim
      | bx ss =>
        obtain ⟨b0, f, cs0, rfl, rfl, h1, _⟩ := h1
        cases b with
        | bx ss' =>
          obtain ⟨q1, q3⟩ := q1
          cases hq : σ.objs (16 * p) with
          | none => rw [hq] at q3; exact q3.elim
          | some q =>
            rw [hq] at q3
            cases q with
            | cells cs =>
              have ha := ((hi.ext (16 * p) (b0, f) hEp).2 _ hq).1
              have hbx := (hi.cells hq).2
              unfold BoxR at hbx
              rw [ha] at hbx
              obtain ⟨us', hul, hus⟩ := agg_of (cs := cs) (b := b0) (f := f) (w := w) (I := I) (g := g) (ob := σ.objs) (fun j c0 hj => by
                obtain ⟨v, q1, _, q3, _, q5⟩ := hbx _ c0 hj
                exact ⟨v, q1, q3, q5⟩) cs.length (Nat.le_refl _)
              refine ⟨b0, f, us', rfl, by rw [q1], ?_, fun j v hv => ?_⟩
              · simp only [PoO, hq]
                refine SRs.of hi q3 hul fun j c hj => ?_
                have hlt : j < us'.length := by rw [hul]; exact (List.getElem?_eq_some_iff.1 hj).1
                obtain ⟨_, r2, c0, r3, r4⟩ := hus j us'[j] (List.getElem?_eq_getElem hlt)
                rw [hj] at r3
                cases r3
                exact ⟨_, List.getElem?_eq_getElem hlt, r2, r4⟩
              · have hlt := (List.getElem?_eq_some_iff.1 hv).1
                obtain ⟨v', r1, r2, _⟩ := hbx j cs[j] (List.getElem?_eq_getElem (by omega))
                refine ⟨(hus j v hv).1, r2⟩
            | _ => exact q3.elim
        | _ => exact q1.elim
end
end Go.LX

