/- What a function is handed and what it hands back; how its body begins. -/
import Derived.Test.YtojaiockbpcilaaLxElt
set_option linter.unusedVariables false
set_option linter.unusedSimpArgs false
namespace Go.LX

variable {P : Program} {σ : St}

/-- A cell as it is handed over: data; an owned slice; whatever. -/
inductive S0 where
  | d (t : Ty) (x : t.T)
  | own (e : TypeId) (t : Ty) (dp : Bool) (xs : List t.T)
  | any
  deriving Inhabited
/-- An argument: a cell; a struct; a pointer to a box that may be written; a value known by a fact. -/
inductive SA where
  | c (s : S0)
  | ag (ss : List S0)
  | bx (ss : List S0)
  | sem (φ : World → (Nat → Prop) → Value → Prop)
  | pd (t : Ty) (x : t.T)
  | nl
  deriving Inhabited
/-- A function's value, what it has captured: pointers to data that stands fixed. -/
def clS (f : FuncId) (caps : List (Σ t : Ty, t.T)) : World → (Nat → Prop) → Value → Prop := fun w I u => ∃ vs : List Value, u = .func (.func f) #[] vs.toArray ∧ All2 (fun c v => PD w I c.1 c.2 0 v) caps vs
theorem clS_kept {f : FuncId} {caps : List (Σ t : Ty, t.T)} : Sem0 (clS f caps) := by
  rintro w w' I I' u hI hw ⟨vs, e, h⟩
  exact ⟨vs, e, h.mono fun c _ v hv => hv.kept hI hw⟩
inductive RS where
  | one (s : S0)
  | ag (ss : List S0)
  | tu (xs : List (Bool × List S0))
  deriving Inhabited

def SR (w : World) (I : Nat → Prop) : S0 → Value → List Nat → Prop
  | .d t x, u, L => L = [] ∧ RT w I t x [u]
  | .own e t dp xs, u, L => OA w I dp e t xs u L
  | .any, u, L => L = [] ∧ u.oneCell' = true
/-- Cells, one behind the other. -/
def SRs (w : World) (I : Nat → Prop) : List S0 → List Value → List Nat → Prop := Rows fun s us L => ∃ u, us = [u] ∧ SR w I s u L
def AR (w : World) (I : Nat → Prop) : SA → Value → List Nat → List (Nat × Nat × Nat) → Prop
  | .c s, u, L, B => B = [] ∧ SR w I s u L
  | .ag ss, u, L, B => B = [] ∧ ∃ us : List Value, u = .agg us.toArray ∧ SRs w I ss us L
  | .bx ss, u, L, B => ∃ b f us, u = .pointer (some ⟨b, f, none⟩) ∧ B = [(b, f, ss.length)] ∧ SRs w I ss us L ∧ ∀ j v, us[j]? = some v → w.cell? ⟨b, f + j, none⟩ = some v ∧ w.frozen? ⟨b, f + j, none⟩ = false
  | .sem φ, u, L, B => L = [] ∧ B = [] ∧ u.oneCell' = true ∧ Sem0 φ ∧ φ w I u
  | .pd t x, u, L, B => L = [] ∧ B = [] ∧ PD w I t x 0 u
  | .nl, u, L, B => L = [] ∧ B = [] ∧ u = .slice none 0 0
def ARs (w : World) (I : Nat → Prop) : List SA → List Value → List Nat → List (Nat × Nat × Nat) → Prop
  | [], [], L, B => L = [] ∧ B = []
  | a :: as, u :: us, L, B => ∃ L1 L2 B1 B2, L = L1 ++ L2 ∧ B = B1 ++ B2 ∧ AR w I a u L1 B1 ∧ ARs w I as us L2 B2
  | _, _, _, _ => False

def RS.cells : RS → List S0
  | .one s => [s]
  | .ag ss => ss
  | .tu xs => xs.flatMap (·.2)
def RS.sv : RS → SV
  | .one _ => .one .any
  | .ag ss => .ag (ss.map fun _ => .any)
  | .tu xs => .tu (xs.map fun x => (x.1, x.2.map fun _ => .any))
def RR0 (w : World) (I : Nat → Prop) (r : RS) (v : Value) (L : List Nat) : Prop := ShapeOK r.sv v ∧ SRs w I r.cells (valCells v) L

/-- The world w' is w but for the blocks L, the cells B and new blocks. -/
structure FrameC (w w' : World) (L : List Nat) (B : List (Nat × Nat × Nat)) : Prop where
  os : w'.os = w.os
  tape : w'.tape = w.tape
  output : w'.output = w.output
  size : w.heap.size ≤ w'.heap.size
  old : ∀ b, b < w.heap.size → b ∉ L → b ∉ B.map (·.1) → w'.heap[b]? = w.heap[b]?
  part : ∀ b, b < w.heap.size → b ∉ L → ∀ f, (∀ r ∈ B, ¬ (r.1 = b ∧ r.2.1 ≤ f ∧ f < r.2.1 + r.2.2)) → w'.cell? ⟨b, f, none⟩ = w.cell? ⟨b, f, none⟩
  froz : ∀ b, b < w.heap.size → b ∉ L → ∀ f, w'.frozen? ⟨b, f, none⟩ = w.frozen? ⟨b, f, none⟩

/-- What the function f does: handed args, it leaves post of them and returns res. -/
def FnPost (args post : List SA) (res : RS) (w : World) (I : Nat → Prop) (vals : List Value) (L : List Nat) (B : List (Nat × Nat × Nat)) (e : Ending) (w' : World) : Prop :=
  ∃ v, e = .returned v ∧ FrameC w w' L B ∧ ∃ (I' : Nat → Prop) (L' Lr : List Nat), (∀ b, I b → I' b) ∧ (∀ b, I' b → b < w'.heap.size ∧ (b < w.heap.size → I b ∨ b ∈ L)) ∧
    ARs w' I' post vals L' B ∧ RR0 w' I' res v Lr ∧ (L' ++ Lr).Nodup ∧ ∀ b ∈ L' ++ Lr, ¬ I' b ∧ b ∉ B.map (·.1) ∧ b < w'.heap.size ∧ (b < w.heap.size → b ∈ L)
def FnC [Glob] (P : Program) (f : FuncId) (args post : List SA) (res : RS) : Prop :=
  ∀ (w : World) (I : Nat → Prop) (vals : List Value) (L : List Nat) (B : List (Nat × Nat × Nat)), (∀ b, I b → b < w.heap.size) ∧ GlobOK w I → ARs w I args vals L B → (L ++ B.map (·.1)).Nodup → (∀ b ∈ L ++ B.map (·.1), ¬ I b ∧ b < w.heap.size) →
    Calls P f vals.toArray w (FnPost args post res w I vals L B)

/-! ### The beginning of a body -/
def cellE (id : Nat) : S0 → C
  | .d t x => .d t x
  | .own .. => .rf id .ar
  | .any => .any
def enC : Nat → List S0 → St → St
  | _, [], σ => σ
  | id, .own e t dp xs :: r, σ => enC (id + 1) r (σ.setO id (.rows e t dp xs))
  | id, _ :: r, σ => enC (id + 1) r σ
def enL : Nat → List S0 → List C
  | _, [] => []
  | id, s :: r => cellE id s :: enL (id + 1) r
def enA (p : Nat) : SA → St → St
  | .c s, σ => (enC (16 * p + 1) [s] σ).put p (.one (cellE (16 * p + 1) s))
  | .ag ss, σ => (enC (16 * p + 1) ss σ).put p (.ag (enL (16 * p + 1) ss))
  | .bx ss, σ => ((enC (16 * p + 1) ss σ).setO (16 * p) (.cells (enL (16 * p + 1) ss))).put p (.one (.rf (16 * p) (.pb 0)))
  | .sem φ, σ => σ.put p (.one (.sem φ))
  | .pd t x, σ => σ.put p (.one (.pd t x 0))
  | .nl, σ => σ.put p (.one .nl)
def enAll : Nat → List SA → St → St
  | _, [], σ => σ
  | p, a :: r, σ => enAll (p + 1) r (enA p a σ)
def St.enter (n : Nat) (args : List SA) : St := enAll 0 args ⟨n, fun _ => .un, fun _ => none⟩

section
variable {K : Ctx} {w : World} {I : Nat → Prop} {g : Gh} {tm : Array Value}
theorem see_off [Glob] (hi : Inv K w I g σ tm) {o : Nat} (ho : σ.objs o = none) {ad : Nat × Nat} {base : Value} {L : List Nat} {q : Ob} {c : C} {u : Value} (h : CR w I g σ.objs c u) : CR w I (g.setO o ad base L) (σ.setO o q).objs c u := by
  refine h.keep (fun b hb => ⟨hb, fun _ => rfl⟩) fun x r v hs => ?_
  by_cases ex : x = o
  · subst ex; rw [ho] at hs; exact hs.elim
  · obtain ⟨e1, e2, e3⟩ := Gh.setO_ne (g := g) (ad := ad) (base := base) (L := L) ex
    rw [e1, e2, e3, St.setO_other _ _ _ _ ex]; exact hs
theorem SR.one {s : S0} {u : Value} {L : List Nat} (h : SR w I s u L) : u.oneCell' = true := by
  cases s with
  | d t x => exact h.2.one u (by simp)
  | own e t dp xs => exact (OA.rt h).one u (by simp)
  | any => exact h.2
theorem enC_ok [Glob] : ∀ {ss : List S0} {us : List Value} {L : List Nat} {id : Nat} {σ : St} {g : Gh}, Inv K w I g σ tm → SRs w I ss us L → L.Nodup → (∀ b ∈ L, Free K I g b) →
    (∀ k, id ≤ k → k < id + ss.length → σ.objs k = none ∧ (∀ a, K.E k ≠ some a) ∧ ∀ v, K.B k = some v → us[k - id]? = some v) →
    ∃ g', Inv K w I g' (enC id ss σ) tm ∧ (∀ b, (∀ x, b ∉ g.L x) → b ∉ L → ∀ x, b ∉ g'.L x) ∧ (∀ c u, CR w I g σ.objs c u → CR w I g' (enC id ss σ).objs c u) ∧
      (∀ (j : Nat) (c : C), (enL id ss)[j]? = some c → ∃ u, us[j]? = some u ∧ u.oneCell' = true ∧ CR w I g' (enC id ss σ).objs c u) ∧ (enC id ss σ).slots = σ.slots ∧ (enC id ss σ).n = σ.n ∧ (∀ k, k < id ∨ id + ss.length ≤ k → (enC id ss σ).objs k = σ.objs k ∧ g'.addr k = g.addr k) ∧ us.length = ss.length
  | [], us, L, id, σ, g, hi, h, _, _, _ => by
    obtain ⟨rfl, rfl⟩ := h
    exact ⟨g, hi, fun _ h _ => h, fun _ _ h => h, fun j c hj => by simp [enL] at hj, rfl, rfl, fun _ _ => ⟨rfl, rfl⟩, rfl⟩
  | s :: ss, us, L, id, σ, g, hi, h, hnd, hf, hk => by
    obtain ⟨u1, us2, L1, L2, rfl, rfl, ⟨u, rfl, hs⟩, h2⟩ := h
    have hone := hs.one
    obtain ⟨hid, hE, hB⟩ := hk id (Nat.le_refl _) (by simp)
    rw [List.nodup_append] at hnd
    obtain ⟨nd1, nd2, nd3⟩ := hnd
    have step : ∀ (σ1 : St) (g1 : Gh), Inv K w I g1 σ1 tm → (∀ b, (∀ x, b ∉ g.L x) → b ∉ L1 → ∀ x, b ∉ g1.L x) → (∀ c u, CR w I g σ.objs c u → CR w I g1 σ1.objs c u) → CR w I g1 σ1.objs (cellE id s) u → σ1.slots = σ.slots → σ1.n = σ.n → (∀ k, k ≠ id → σ1.objs k = σ.objs k ∧ g1.addr k = g.addr k) → enC id (s :: ss) σ = enC (id + 1) ss σ1 →
        ∃ g', Inv K w I g' (enC id (s :: ss) σ) tm ∧ (∀ b, (∀ x, b ∉ g.L x) → b ∉ L1 ++ L2 → ∀ x, b ∉ g'.L x) ∧ (∀ c u, CR w I g σ.objs c u → CR w I g' (enC id (s :: ss) σ).objs c u) ∧
      (∀ (j : Nat) (c : C), (enL id (s :: ss))[j]? = some c → ∃ v, ([u] ++ us2)[j]? = some v ∧ v.oneCell' = true ∧ CR w I g' (enC id (s :: ss) σ).objs c v) ∧ (enC id (s :: ss) σ).slots = σ.slots ∧ (enC id (s :: ss) σ).n = σ.n ∧ (∀ k, k < id ∨ id + (s :: ss).length ≤ k → (enC id (s :: ss) σ).objs k = σ.objs k ∧ g'.addr k = g.addr k) ∧ ([u] ++ us2).length = (s :: ss).length := by
      intro σ1 g1 hi1 hf1 hc1 hcell hsl hn hob he
      obtain ⟨g', r1, r2, r3, r4, r5, r6, r7, r8⟩ := enC_ok (id := id + 1) hi1 h2 nd2 (fun b hb => ⟨(hf b (by simp [hb])).i, hf1 b (hf b (by simp [hb])).l fun hb1 => nd3 b hb1 b hb rfl, (hf b (by simp [hb])).m⟩) fun k hk1 hk2 => by
        obtain ⟨q1, q2, q3⟩ := hk k (by omega) (by simp; omega)
        refine ⟨by rw [(hob k (by omega)).1]; exact q1, q2, fun v hv => ?_⟩
        have := q3 v hv
        rw [show k - id = (k - (id + 1)) + 1 by omega] at this
        simpa using this
      rw [he]
      refine ⟨g', r1, fun b hb hb' => r2 b (hf1 b hb fun h => hb' (by simp [h])) fun h => hb' (by simp [h]), fun c u h => r3 c u (hc1 c u h), fun j c hj => ?_, r5.trans hsl, r6.trans hn, fun k hk' => ?_, by simp [r8]⟩
      · cases j with
        | zero => simp [enL] at hj; subst hj; exact ⟨u, rfl, hone, r3 _ _ hcell⟩
        | succ j =>
          obtain ⟨v, q1, q2⟩ := r4 j c (by simpa [enL] using hj)
          exact ⟨v, by simpa using q1, q2⟩
      · simp only [List.length_cons] at hk'
        obtain ⟨q1, q2⟩ := r7 k (by omega)
        obtain ⟨q3, q4⟩ := hob k (by omega)
        exact ⟨q1.trans q3, q2.trans q4⟩
    cases s with
    | d t x => exact step σ g hi (fun _ h _ => h) (fun _ _ h => h) hs.2 rfl rfl (fun _ _ => ⟨rfl, rfl⟩) rfl
    | any => exact step σ g hi (fun _ h _ => h) (fun _ _ h => h) trivial rfl rfl (fun _ _ => ⟨rfl, rfl⟩) rfl
    | own e t dp xs =>
      have hB' : ∀ v, K.B id = some v → u = v := fun v hv => by
        have := hB v hv
        simpa using this
      have hnew := hi.newRows (o := id) hid hB' hE nd1 (fun b hb => hf b (by simp [hb])) hs
      refine step _ _ hnew (fun b hb hb1 x hx => ?_) (fun c v h => see_off hi hid h) ?_ rfl rfl (fun k hk => ⟨St.setO_other _ _ _ _ hk, (Gh.setO_ne hk).1⟩) rfl
      · by_cases ex : x = id
        · subst ex; rw [Gh.setO_eq.2.2] at hx; exact hb1 hx
        · rw [(Gh.setO_ne ex).2.2] at hx; exact hb x hx
      · show seeO _ _ _ _ _ ((σ.setO _ _).objs _) _ _
        rw [St.setO_same, Gh.setO_eq.2.1]
        rfl
/-- A slot is told what it holds. -/
theorem Inv.tell [Glob] (hi : Inv K w I g σ tm) {t : Nat} {s : SV} (ht : t < σ.n) (hs : ShapeOK s (tm.getD t undef)) (hc : ∀ (i : Nat) (c : C), s.cells[i]? = some c → ∃ v, (valCells (tm.getD t undef))[i]? = some v ∧ CR w I g σ.objs c v) : Inv K w I g (σ.put t s) tm := by
  have e : tm.setIfInBounds t (tm.getD t undef) = tm := by
    have hlt : t < tm.size := by rw [hi.size]; exact ht
    refine Array.ext (by simp) fun i h1 h2 => ?_
    rw [Array.getElem_setIfInBounds (by simpa using h1)]
    split
    · rename_i he
      subst he
      simp [Array.getD_eq_getD_getElem?, hlt]
    · rfl
  have := hi.put ht hs hc
  rw [e] at this
  exact this
/-- A box that was handed in. -/
theorem Inv.xbox [Glob] (hi : Inv K w I g σ tm) {o b f : Nat} {cs : List C} {us : List Value} (ho : σ.objs o = none) (hE : K.E o = some (b, f)) (hB : ∀ v, K.B o ≠ some v) (hX : ¬ K.X b) (hI : ¬ I b) (hb : b < w.heap.size) (hb0 : b < K.w0.heap.size) (hL : ∀ x, b ∉ g.L x)
    (hR : ∀ j, j < cs.length → K.R b (f + j)) (hc : ∀ (j : Nat) (c : C), cs[j]? = some c → ∃ u, us[j]? = some u ∧ u.oneCell' = true ∧ CR w I g σ.objs c u) (hu : ∀ j v, us[j]? = some v → w.cell? ⟨b, f + j, none⟩ = some v ∧ w.frozen? ⟨b, f + j, none⟩ = false) :
    Inv K w I (g.setO o (b, f) (g.base o) [b]) (σ.setO o (.cells cs)) tm := by
  have hkeep : ∀ {c : C} {u : Value}, CR w I g σ.objs c u → CR w I (g.setO o (b, f) (g.base o) [b]) (σ.setO o (.cells cs)).objs c u := fun h => see_off hi ho h
  have hob : ObR K w I (g.setO o (b, f) (g.base o) [b]) (σ.setO o (.cells cs)).objs o := by
    unfold ObR; rw [St.setO_same]; rw [Gh.setO_eq.1, Gh.setO_eq.2.2]
    refine ⟨rfl, fun j c hj => ?_⟩
    rw [Gh.setO_eq.1]
    obtain ⟨u, h1, h2, h3⟩ := hc j c hj
    obtain ⟨q1, q2⟩ := hu j u h1
    exact ⟨u, q1, q2, h2, fun _ => hR j (List.getElem?_eq_some_iff.1 hj).1, hkeep h3⟩
  refine hi.change rfl rfl hi.fr (fun b hb => ⟨hb, fun _ => rfl⟩) hi.immX (fun x r v hs => ?_) ?_ ?_ ?_ ?_ ?_ fun x => ?_
  · by_cases ex : x = o
    · subst ex; rw [ho] at hs; exact hs.elim
    · obtain ⟨e1, e2, e3⟩ := Gh.setO_ne (g := g) (ad := (b, f)) (base := g.base o) (L := [b]) ex
      rw [e1, e2, e3, St.setO_other _ _ _ _ ex]; exact hs
  · intro x y c hx hy
    by_cases ex : x = o
    · by_cases ey : y = o
      · rw [ex, ey]
      · rw [ex, Gh.setO_eq.2.2] at hx
        rw [(Gh.setO_ne ey).2.2] at hy
        simp at hx; subst hx
        exact absurd hy (hL y)
    · rw [(Gh.setO_ne ex).2.2] at hx
      by_cases ey : y = o
      · rw [ey, Gh.setO_eq.2.2] at hy
        simp at hy; subst hy
        exact absurd hx (hL x)
      · rw [(Gh.setO_ne ey).2.2] at hy
        exact hi.dis x y c hx hy
  · intro x
    by_cases ex : x = o
    · rw [ex, Gh.setO_eq.2.2]; simp
    · rw [(Gh.setO_ne ex).2.2]; exact hi.nod x
  · intro x c hx
    by_cases ex : x = o
    · rw [ex, Gh.setO_eq.2.2] at hx
      simp at hx; subst hx
      exact ⟨hI, hb, .inr ⟨_, by rw [ex]; exact hE, rfl⟩⟩
    · rw [(Gh.setO_ne ex).2.2] at hx; exact hi.own x c hx
  · intro x a hx
    refine ⟨(hi.ext x a hx).1, fun p hp => ?_⟩
    by_cases ex : x = o
    · subst ex
      rw [St.setO_same] at hp
      cases hp
      rw [hE] at hx
      cases hx
      rw [Gh.setO_eq.1]
      exact ⟨rfl, hX, hb0, _, rfl⟩
    · rw [St.setO_other _ _ _ _ ex] at hp
      rw [(Gh.setO_ne ex).1]; exact (hi.ext x a hx).2 p hp
  · intro x v hx
    refine ⟨(hi.exB x v hx).1, fun p hp => ?_⟩
    by_cases ex : x = o
    · subst ex; exact absurd hx (hB v)
    · rw [St.setO_other _ _ _ _ ex] at hp
      rw [(Gh.setO_ne ex).2.1]; exact (hi.exB x v hx).2 p hp
  · by_cases ex : x = o
    · subst ex; exact hob
    · obtain ⟨e1, e2, e3⟩ := Gh.setO_ne (g := g) (ad := (b, f)) (base := g.base o) (L := [b]) ex
      exact ObR.same (St.setO_other _ _ _ _ ex) e1 e2 e3 (fun b hb => ⟨hb, fun _ => rfl⟩) (fun _ _ => rfl) (fun x r v hs => by
        by_cases ex : x = o
        · subst ex; rw [ho] at hs; exact hs.elim
        · obtain ⟨e1, e2, e3⟩ := Gh.setO_ne (g := g) (ad := (b, f)) (base := g.base o) (L := [b]) ex
          rw [e1, e2, e3, St.setO_other _ _ _ _ ex]; exact hs) (hi.obj x)
end
end Go.LX
