/- How the state's meaning turns: new blocks, new objects, objects let go, told anew, made fixed. -/
import Derived.Test.YtojaiockbpcilaaLxState
set_option linter.unusedVariables false
set_option linter.unusedSimpArgs false
namespace Go.LX

/-- The world w' is w but for the blocks T and new ones. -/
structure Grow (w w' : World) (T : Nat → Prop) : Prop where
  os : w'.os = w.os
  tape : w'.tape = w.tape
  output : w'.output = w.output
  size : w.heap.size ≤ w'.heap.size
  block : ∀ b, b < w.heap.size → ¬ T b → w'.heap[b]? = w.heap[b]?
theorem Grow.refl (w : World) (T : Nat → Prop) : Grow w w T := ⟨rfl, rfl, rfl, Nat.le_refl _, fun _ _ _ => rfl⟩
theorem Grow.of_below {w w' : World} (h : Go.RowKit.Below w.heap.size w w') : Grow w w' fun _ => False := ⟨h.os, h.tape, h.output, h.size, fun b hb _ => h.block b hb⟩
theorem Grow.of_grownBy {w w' : World} {r : Option Nat} (h : w.grownBy w' r) : Grow w w' fun b => r = some b := ⟨h.os, h.tape, h.output, h.size, fun b hb ht => h.block b hb fun e => ht e.symm⟩
theorem Grow.mono {w w' : World} {T T' : Nat → Prop} (h : Grow w w' T) (hT : ∀ b, T b → T' b) : Grow w w' T' := ⟨h.os, h.tape, h.output, h.size, fun b hb ht => h.block b hb fun e => ht (hT b e)⟩
theorem Grow.trans {w w' w'' : World} {T : Nat → Prop} (h : Grow w w' T) (h' : Grow w' w'' T) : Grow w w'' T := ⟨h'.os.trans h.os, h'.tape.trans h.tape, h'.output.trans h.output, Nat.le_trans h.size h'.size, fun b hb ht => (h'.block b (Nat.lt_of_lt_of_le hb h.size) ht).trans (h.block b hb ht)⟩

theorem Ctx.Fr.step {K : Ctx} {w w' : World} {T : Nat → Prop} (h : K.Fr w) (hg : Grow w w' T) (hT : ∀ b, T b → K.mine b) : K.Fr w' := by
  have hb : ∀ b, b < K.w0.heap.size → ¬ K.X b → w'.heap[b]? = w.heap[b]? := fun b hb hx => hg.block b (Nat.lt_of_lt_of_le hb h.size) fun ht => hx (hT b ht hb)
  exact {
    os := hg.os.trans h.os
    tape := hg.tape.trans h.tape
    output := hg.output.trans h.output
    size := Nat.le_trans h.size hg.size
    old := fun b h0 hx hr => (hb b h0 hx).trans (h.old b h0 hx hr)
    part := fun b h0 hx o hr => (cell_block (hb b h0 hx) o).trans (h.part b h0 hx o hr)
    froz := fun b h0 hx o => (frozen_block (hb b h0 hx) o).trans (h.froz b h0 hx o) }

/-- A block that nothing tells of. -/
structure Free (K : Ctx) (I : Nat → Prop) (g : Gh) (b : Nat) : Prop where
  i : ¬ I b
  l : ∀ o, b ∉ g.L o
  m : K.mine b

section
variable {K : Ctx} {w w' : World} {I I' : Nat → Prop} {g g' : Gh} {σ σ' : St} {tm : Array Value}

theorem ObR.same {ob ob' : Nat → Option Ob} {o : Nat} (hq : ob' o = ob o) (ha : g'.addr o = g.addr o) (hb : g'.base o = g.base o) (hL : g'.L o = g.L o) (hI : ∀ b, I b → I' b ∧ ∀ f, w'.cell? ⟨b, f, none⟩ = w.cell? ⟨b, f, none⟩)
    (hm : ∀ b ∈ g.L o, w'.heap[b]? = w.heap[b]?) (hk : ∀ o, Keep w I g ob w' I' g' ob' o) (h : ObR K w I g ob o) : ObR K w' I' g' ob' o := by
  unfold ObR at h ⊢
  rw [hq, hL, hb]
  cases hob : ob o with
  | none => rw [hob] at h; exact h
  | some q =>
    rw [hob] at h
    cases q with
    | dead => exact h
    | cells cs =>
      refine ⟨by rw [ha]; exact h.1, fun j c hj => ?_⟩
      have hbl : (g.addr o).1 ∈ g.L o := by rw [h.1]; simp
      obtain ⟨u, h1, h2, h3, h4, h5⟩ := h.2 j c hj
      rw [ha]
      exact ⟨u, (cell_block (hm _ hbl) _).trans h1, (frozen_block (hm _ hbl) _).trans h2, h3, h4, h5.keep hI hk⟩
    | rows e t dp xs => exact OA.kept h (fun b hb => (hI b hb).1) (fun b hb => (hI b hb).2) hm
    | fz t dp xs => exact ⟨h.1, h.2.kept (fun b hb => (hI b hb).1) fun b hb => (hI b hb).2⟩

/-- Everything told anew at one stroke. -/
theorem Inv.change [Glob] (h : Inv K w I g σ tm) (hn : σ'.n = σ.n) (hsl : σ'.slots = σ.slots) (hfr : K.Fr w') (hI : ∀ b, I b → I' b ∧ ∀ f, w'.cell? ⟨b, f, none⟩ = w.cell? ⟨b, f, none⟩) (himm : ∀ b, I' b → b < w'.heap.size ∧ (b < K.w0.heap.size → K.I0 b ∨ K.X b))
    (hk : ∀ o, Keep w I g σ.objs w' I' g' σ'.objs o) (hdis : ∀ o o' b, b ∈ g'.L o → b ∈ g'.L o' → o = o') (hnod : ∀ o, (g'.L o).Nodup) (hown : ∀ o b, b ∈ g'.L o → ¬ I' b ∧ b < w'.heap.size ∧ (K.mine b ∨ K.ebox o b))
    (hext : ∀ o a, K.E o = some a → o < 1000 ∧ ∀ q, σ'.objs o = some q → g'.addr o = a ∧ ¬ K.X a.1 ∧ a.1 < K.w0.heap.size ∧ ∃ cs, q = .cells cs) (hexB : ∀ o v, K.B o = some v → o < 1000 ∧ ∀ q, σ'.objs o = some q → g'.base o = v) (hob : ∀ o, ObR K w' I' g' σ'.objs o) : Inv K w' I' g' σ' tm where
  fr := hfr
  size := by rw [hn]; exact h.size
  glob := h.glob.kept (fun b hb => (hI b hb).1) fun b hb => (hI b hb).2
  imm0 := fun b hb => (hI b (h.imm0 b hb)).1
  immX := himm
  dis := hdis
  nod := hnod
  own := hown
  ext := hext
  exB := hexB
  obj := hob
  shape := fun t => by rw [hsl]; exact h.shape t
  slot := fun t i c hc => by
    rw [hsl] at hc
    obtain ⟨u, h1, h2⟩ := h.slot t i c hc
    exact ⟨u, h1, h2.keep hI hk⟩

theorem Inv.ob_lt [Glob] (h : Inv K w I g σ tm) {o b : Nat} (hb : b ∈ g.L o) : b < w.heap.size := (h.own o b hb).2.1

/-- The world turns at blocks that nothing tells of. -/
theorem Inv.scrib [Glob] (h : Inv K w I g σ tm) {T : Nat → Prop} (hg : Grow w w' T) (hT : ∀ b, T b → Free K I g b) : Inv K w' I g σ tm := by
  have hI : ∀ b, I b → I b ∧ ∀ f, w'.cell? ⟨b, f, none⟩ = w.cell? ⟨b, f, none⟩ := fun b hb => ⟨hb, fun f => cell_block (hg.block b (h.immX b hb).1 fun ht => (hT b ht).i hb) f⟩
  have hL : ∀ o b, b ∈ g.L o → w'.heap[b]? = w.heap[b]? := fun o b hb => hg.block b (h.ob_lt hb) fun ht => (hT b ht).l o hb
  have hk : ∀ o, Keep w I g σ.objs w' I g σ.objs o := by
    intro o r u hs
    have hob := h.obj o
    unfold ObR at hob
    cases hq : σ.objs o with
    | none => rw [hq] at hs; exact hs.elim
    | some q =>
      rw [hq] at hs hob
      simp only [seeO] at hs ⊢
      cases q with
      | dead => exact see_dead
      | cells cs => exact see_cells rfl hs
      | rows e t dp xs =>
        refine see_same hI (fun b hb => ⟨id, fun f => ?_⟩) hs
        rcases hb with hb | hb
        · exact cell_block (hL o b hb) f
        · obtain ⟨vs, L', ho, hr, e⟩ := hob
          exact cell_block (hL o b (by rw [e, hb]; simp)) f
      | fz t dp xs =>
        obtain ⟨h0, A, cap, hb0, hc1, hc2, hc3⟩ := hob
        cases r with
        | ns i j =>
          cases dp with
          | false => trivial
          | true =>
            obtain ⟨h0', b, f1, cap, h1, h2, h3⟩ := hs
            refine ⟨h0', b, f1, cap, h1, h2, ?_⟩
            rw [h1] at hb0
            simp only [List.cons.injEq, Value.slice.injEq, and_true] at hb0
            obtain ⟨b', o', vs, hA, hca, _⟩ := hc3 i xs[i] (List.getElem?_eq_getElem h2)
            rw [← hb0.1] at hA
            cases hA
            rw [(hI b hca.1).2]; exact h3
        | vw t x => cases dp with
          | false => trivial
          | true => exact RT.kept (fun b hb => (hI b hb).1) (fun b hb => (hI b hb).2) hs
        | vp t x j => cases dp with
          | false => trivial
          | true => exact PD.kept hs (fun b hb => (hI b hb).1) (fun b hb => (hI b hb).2)
        | _ => exact hs
  exact h.change rfl rfl (h.fr.step hg fun b ht => (hT b ht).m) hI (fun b hb => ⟨Nat.lt_of_lt_of_le (h.immX b hb).1 hg.size, (h.immX b hb).2⟩) hk h.dis h.nod
    (fun o b hb => ⟨(h.own o b hb).1, Nat.lt_of_lt_of_le (h.own o b hb).2.1 hg.size, (h.own o b hb).2.2⟩) h.ext h.exB fun o => ObR.same rfl rfl rfl rfl hI (hL o) hk (h.obj o)
theorem Inv.grow [Glob] (h : Inv K w I g σ tm) (hw : Go.RowKit.Below w.heap.size w w') : Inv K w' I g σ tm := h.scrib (Grow.of_below hw) fun _ h => h.elim

def Gh.setO (g : Gh) (o : Nat) (ad : Nat × Nat) (base : Value) (L : List Nat) : Gh :=
  ⟨fun x => if x = o then ad else g.addr x, fun x => if x = o then base else g.base x, fun x => if x = o then L else g.L x⟩
theorem Gh.setO_ne {o x : Nat} {ad : Nat × Nat} {base : Value} {L : List Nat} (h : x ≠ o) : (g.setO o ad base L).addr x = g.addr x ∧ (g.setO o ad base L).base x = g.base x ∧ (g.setO o ad base L).L x = g.L x := by
  simp [Gh.setO, h]
theorem Gh.setO_eq {o : Nat} {ad : Nat × Nat} {base : Value} {L : List Nat} : (g.setO o ad base L).addr o = ad ∧ (g.setO o ad base L).base o = base ∧ (g.setO o ad base L).L o = L := by
  simp [Gh.setO]

/-- One object is told anew; what it holds is among its own blocks and free ones. -/
theorem Inv.one [Glob] (h : Inv K w I g σ tm) {o : Nat} {q : Ob} {ad : Nat × Nat} {base : Value} {L : List Nat} {T : Nat → Prop} (hg : Grow w w' T) (hT : ∀ b, T b → b ∈ g.L o ∨ Free K I g b) (hfr : K.Fr w')
    (hII : ∀ b, I b → I' b) (hI' : ∀ b, I' b → I b ∨ ((b ∈ g.L o ∨ Free K I g b) ∧ K.mine b ∧ b ∉ L ∧ b < w'.heap.size))
    (hnd : L.Nodup) (hL : ∀ b ∈ L, b < w'.heap.size ∧ (b ∈ g.L o ∨ (Free K I g b)) ∧ (K.mine b ∨ K.ebox o b))
    (hE : ∀ a, K.E o = some a → ad = a ∧ ¬ K.X a.1 ∧ a.1 < K.w0.heap.size ∧ ∃ cs, q = .cells cs) (hB : ∀ v, K.B o = some v → base = v)
    (hk : Keep w I g σ.objs w' I' (g.setO o ad base L) (σ.setO o q).objs o)
    (hq : (∀ x, Keep w I g σ.objs w' I' (g.setO o ad base L) (σ.setO o q).objs x) → (∀ b, I b → I' b ∧ ∀ f, w'.cell? ⟨b, f, none⟩ = w.cell? ⟨b, f, none⟩) → ObR K w' I' (g.setO o ad base L) (σ.setO o q).objs o) : Inv K w' I' (g.setO o ad base L) (σ.setO o q) tm := by
  have hI : ∀ b, I b → I' b ∧ ∀ f, w'.cell? ⟨b, f, none⟩ = w.cell? ⟨b, f, none⟩ := fun b hb => ⟨hII b hb, fun f => cell_block (hg.block b (h.immX b hb).1 fun ht => by
    rcases hT b ht with ht | ht
    · exact (h.own o b ht).1 hb
    · exact ht.i hb) f⟩
  have hLo : ∀ x, x ≠ o → ∀ b, b ∈ g.L x → w'.heap[b]? = w.heap[b]? := fun x hx b hb => hg.block b (h.ob_lt hb) fun ht => by
    rcases hT b ht with ht | ht
    · exact hx (h.dis x o b hb ht)
    · exact ht.l x hb
  have hkx : ∀ x, Keep w I g σ.objs w' I' (g.setO o ad base L) (σ.setO o q).objs x := by
    intro x
    by_cases hx : x = o
    · subst hx; exact hk
    · intro r u hs
      obtain ⟨e1, e2, e3⟩ := Gh.setO_ne (g := g) (ad := ad) (base := base) (L := L) hx
      rw [e1, e2, e3, St.setO_other _ _ _ _ hx]
      have hob := h.obj x
      unfold ObR at hob
      cases hq : σ.objs x with
      | none => rw [hq] at hs; exact hs.elim
      | some p =>
        rw [hq] at hs hob
        simp only [seeO] at hs ⊢
        cases p with
        | dead => exact see_dead
        | cells cs => exact see_cells rfl hs
        | rows e t dp xs =>
          refine see_same hI (fun b hb => ⟨id, fun f => ?_⟩) hs
          rcases hb with hb | hb
          · exact cell_block (hLo x hx b hb) f
          · obtain ⟨vs, L', ho, hr, e⟩ := hob
            exact cell_block (hLo x hx b (by rw [e, hb]; simp)) f
        | fz t dp xs =>
          obtain ⟨h0, A, cap, hb0, hc1, hc2, hc3⟩ := hob
          cases r with
          | ns i j =>
            cases dp with
            | false => trivial
            | true =>
              obtain ⟨h0', b, f1, cap, h1, h2, h3⟩ := hs
              refine ⟨h0', b, f1, cap, h1, h2, ?_⟩
              rw [h1] at hb0
              simp only [List.cons.injEq, Value.slice.injEq, and_true] at hb0
              obtain ⟨b', o', vs, hA, hca, _⟩ := hc3 i xs[i] (List.getElem?_eq_getElem h2)
              rw [← hb0.1] at hA
              cases hA
              rw [(hI b hca.1).2]; exact h3
          | vw t x => cases dp with
            | false => trivial
            | true => exact RT.kept (fun b hb => (hI b hb).1) (fun b hb => (hI b hb).2) hs
          | vp t x j => cases dp with
            | false => trivial
            | true => exact PD.kept hs (fun b hb => (hI b hb).1) (fun b hb => (hI b hb).2)
          | _ => exact hs
  refine h.change rfl rfl hfr hI (fun b hb => ?_) hkx ?_ ?_ ?_ ?_ ?_ fun x => ?_
  · rcases hI' b hb with hb | ⟨h1, h2, h3, h4⟩
    · exact ⟨Nat.lt_of_lt_of_le (h.immX b hb).1 hg.size, (h.immX b hb).2⟩
    · exact ⟨h4, fun hlt => .inr (h2 hlt)⟩
  · intro x y b hx hy
    by_cases ex : x = o
    · by_cases ey : y = o
      · rw [ex, ey]
      · rw [ex, Gh.setO_eq.2.2] at hx
        rw [(Gh.setO_ne ey).2.2] at hy
        rcases (hL b hx).2.1 with h1 | h1
        · exact absurd (h.dis y o b hy h1) ey
        · exact absurd hy (h1.l y)
    · rw [(Gh.setO_ne ex).2.2] at hx
      by_cases ey : y = o
      · rw [ey, Gh.setO_eq.2.2] at hy
        rcases (hL b hy).2.1 with h1 | h1
        · exact absurd (h.dis x o b hx h1) ex
        · exact absurd hx (h1.l x)
      · rw [(Gh.setO_ne ey).2.2] at hy
        exact h.dis x y b hx hy
  · intro x
    by_cases ex : x = o
    · rw [ex, Gh.setO_eq.2.2]; exact hnd
    · rw [(Gh.setO_ne ex).2.2]; exact h.nod x
  · intro x b hb
    by_cases ex : x = o
    · rw [ex, Gh.setO_eq.2.2] at hb
      obtain ⟨h1, h2, h3⟩ := hL b hb
      refine ⟨fun hI => ?_, h1, by rw [ex]; exact h3⟩
      rcases hI' b hI with hI | ⟨_, _, hn, _⟩
      · rcases h2 with h2 | h2
        · exact (h.own o b h2).1 hI
        · exact h2.i hI
      · exact hn hb
    · rw [(Gh.setO_ne ex).2.2] at hb
      obtain ⟨h1, h2, h3⟩ := h.own x b hb
      refine ⟨fun hI => ?_, Nat.lt_of_lt_of_le h2 hg.size, h3⟩
      rcases hI' b hI with hI | ⟨h4 | h4, _⟩
      · exact h1 hI
      · exact ex (h.dis x o b hb h4)
      · exact h4.l x hb
  · intro x a hx
    refine ⟨(h.ext x a hx).1, fun p hp => ?_⟩
    by_cases ex : x = o
    · subst ex
      rw [St.setO_same] at hp
      cases hp
      rw [Gh.setO_eq.1]
      exact hE a hx
    · rw [St.setO_other _ _ _ _ ex] at hp
      rw [(Gh.setO_ne ex).1]; exact (h.ext x a hx).2 p hp
  · intro x v hx
    refine ⟨(h.exB x v hx).1, fun p hp => ?_⟩
    by_cases ex : x = o
    · subst ex; rw [Gh.setO_eq.2.1]; exact hB v hx
    · rw [St.setO_other _ _ _ _ ex] at hp
      rw [(Gh.setO_ne ex).2.1]; exact (h.exB x v hx).2 p hp
  · by_cases ex : x = o
    · subst ex; exact hq hkx hI
    · obtain ⟨e1, e2, e3⟩ := Gh.setO_ne (g := g) (ad := ad) (base := base) (L := L) ex
      exact ObR.same (St.setO_other _ _ _ _ ex) e1 e2 e3 hI (hLo x ex) hkx (h.obj x)

theorem Inv.noE [Glob] (h : Inv K w I g σ tm) {o : Nat} {q : Ob} (hq : σ.objs o = some q) (hn : ∀ cs, q ≠ .cells cs) (a : Nat × Nat) : K.E o ≠ some a := fun e => by
  obtain ⟨_, _, _, cs, hc⟩ := (h.ext o a e).2 q hq
  exact hn cs hc
theorem Inv.own_mine [Glob] (h : Inv K w I g σ tm) {o b : Nat} {q : Ob} (hq : σ.objs o = some q) (hn : ∀ cs, q ≠ .cells cs) (hb : b ∈ g.L o) : K.mine b := by
  rcases (h.own o b hb).2.2 with h1 | ⟨a, ha, _⟩
  · exact h1
  · exact absurd ha (h.noE hq hn a)
theorem Inv.noE' [Glob] (h : Inv K w I g σ tm) {o : Nat} (ho : 1000 ≤ o) : (∀ a, K.E o ≠ some a) ∧ ∀ v, K.B o ≠ some v :=
  ⟨fun a e => by have := (h.ext o a e).1; omega, fun v e => by have := (h.exB o v e).1; omega⟩
/-- An owned slice is let go: its blocks are free. -/
theorem Inv.kill [Glob] (h : Inv K w I g σ tm) {o : Nat} {e : TypeId} {t : Ty} {dp : Bool} {xs : List t.T} (ho : σ.objs o = some (.rows e t dp xs)) :
    Inv K w I (g.setO o (g.addr o) (g.base o) []) (σ.setO o .dead) tm ∧ ∀ b ∈ g.L o, Free K I (g.setO o (g.addr o) (g.base o) []) b := by
  refine ⟨h.one (Grow.refl w fun _ => False) (fun _ h => h.elim) h.fr (fun _ h => h) (fun b hb => .inl hb) List.nodup_nil (fun b hb => by simp at hb) (fun a ha => absurd ha (h.noE ho (fun _ h => by cases h) a)) (fun v hv => (h.exB o v hv).2 _ ho) ?_ fun _ _ => ?_, fun b hb => ⟨(h.own o b hb).1, fun x hx => ?_, h.own_mine ho (fun _ h => by cases h) hb⟩⟩
  · intro r u _
    rw [St.setO_same]; simp only [seeO]; exact see_dead
  · unfold ObR; rw [St.setO_same]; exact Gh.setO_eq.2.2
  · by_cases ex : x = o
    · subst ex; rw [Gh.setO_eq.2.2] at hx; simp at hx
    · rw [(Gh.setO_ne ex).2.2] at hx; exact ex (h.dis x o b hx hb)
/-- A new owned slice. -/
theorem Inv.newRows [Glob] (h : Inv K w I g σ tm) {o : Nat} {e : TypeId} {t : Ty} {dp : Bool} {xs : List t.T} {v : Value} {L : List Nat} (ho : σ.objs o = none) (hB : ∀ v', K.B o = some v' → v = v') (hE : ∀ a, K.E o ≠ some a) (hnd : L.Nodup) (hL : ∀ b ∈ L, Free K I g b) (hr : OA w I dp e t xs v L) :
    Inv K w I (g.setO o (g.addr o) v L) (σ.setO o (.rows e t dp xs)) tm := by
  refine h.one (Grow.refl w fun _ => False) (fun _ h => h.elim) h.fr (fun _ h => h) (fun b hb => .inl hb) hnd (fun b hb => ⟨hr.lt b hb, .inr (hL b hb), .inl (hL b hb).m⟩) (fun a ha => absurd ha (hE a)) hB ?_ fun _ _ => ?_
  · intro r u hs; rw [ho] at hs; exact hs.elim
  · unfold ObR; rw [St.setO_same]; rw [Gh.setO_eq.2.1, Gh.setO_eq.2.2]; exact hr
/-- A new box, or a literal's array: one block. -/
theorem Inv.newCells [Glob] (h : Inv K w I g σ tm) {o : Nat} {cs : List C} {b : Nat} (ho : σ.objs o = none) (h1000 : 1000 ≤ o) (hb : b < w.heap.size) (hf : Free K I g b) (hn : ¬ b < K.w0.heap.size)
    (hr : ∀ (j : Nat) (c : C), cs[j]? = some c → ∃ u, w.cell? ⟨b, j, none⟩ = some u ∧ w.frozen? ⟨b, j, none⟩ = false ∧ u.oneCell' = true ∧ CR w I g σ.objs c u) :
    Inv K w I (g.setO o (b, 0) (g.base o) [b]) (σ.setO o (.cells cs)) tm := by
  refine h.one (Grow.refl w fun _ => False) (fun _ h => h.elim) h.fr (fun _ h => h) (fun b hb => .inl hb) (by simp) (fun x hx => by simp at hx; subst hx; exact ⟨hb, .inr hf, .inl hf.m⟩) (fun a ha => absurd ha ((h.noE' h1000).1 a)) (fun v hv => absurd hv ((h.noE' h1000).2 v)) ?_ fun hk hI => ?_
  · intro r u hs; rw [ho] at hs; exact hs.elim
  · unfold ObR; rw [St.setO_same]; rw [Gh.setO_eq.1, Gh.setO_eq.2.2]
    refine ⟨rfl, fun j c hj => ?_⟩
    rw [Gh.setO_eq.1]
    obtain ⟨u, h1, h2, h3, h4⟩ := hr j c hj
    exact ⟨u, by simpa using h1, by simpa using h2, h3, fun hlt => absurd hlt hn, h4.keep hI hk⟩
/-- An owned slice is made fixed. -/
theorem Inv.freeze [Glob] (h : Inv K w I g σ tm) {o : Nat} {e : TypeId} {t : Ty} {dp : Bool} {xs : List t.T} (ho : σ.objs o = some (.rows e t dp xs)) :
    Inv K w (fun b => I b ∨ b ∈ g.L o) (g.setO o (g.addr o) (g.base o) []) (σ.setO o (.fz t dp xs)) tm := by
  have hob := h.obj o
  unfold ObR at hob
  rw [ho] at hob
  refine h.one (Grow.refl w fun _ => False) (fun _ h => h.elim) h.fr (fun _ h => .inl h) (fun b hb => hb.imp id fun hb => ⟨.inl hb, h.own_mine ho (fun _ h => by cases h) hb, by simp, h.ob_lt hb⟩) List.nodup_nil (fun b hb => by simp at hb) (fun a ha => absurd ha (h.noE ho (fun _ h => by cases h) a)) (fun v hv => (h.exB o v hv).2 _ ho) ?_ fun _ _ => ?_
  · intro r u hs
    rw [ho] at hs
    rw [St.setO_same, Gh.setO_eq.1, Gh.setO_eq.2.1]
    refine see_fz (fun b hb => ⟨fun hb => hb, fun f => rfl⟩) hs
  · unfold ObR; rw [St.setO_same]; rw [Gh.setO_eq.2.1, Gh.setO_eq.2.2]
    exact ⟨rfl, hob.rt⟩
/-- An owned slice's rows: owned by their own cells alone from now on. -/
theorem Inv.shallow [Glob] (h : Inv K w I g σ tm) {o : Nat} {e : TypeId} {t : Ty} {dp : Bool} {xs : List t.T} (ho : σ.objs o = some (.rows e t dp xs)) :
    Inv K w (fun b => I b ∨ (b ∈ g.L o ∧ (g.base o).ownBlock ≠ some b)) (g.setO o (g.addr o) (g.base o) (g.base o).ownBlock.toList) (σ.setO o (.rows e t false xs)) tm := by
  have hob := h.obj o
  unfold ObR at hob
  rw [ho] at hob
  have hsub : ∀ b ∈ (g.base o).ownBlock.toList, b ∈ g.L o := by
    obtain ⟨vs, L', _, _, e⟩ := hob
    intro b hb; rw [e]; simp at hb ⊢; exact .inl hb
  refine h.one (Grow.refl w fun _ => False) (fun _ h => h.elim) h.fr (fun _ h => .inl h) (fun b hb => hb.imp id fun hb => ⟨.inl hb.1, h.own_mine ho (fun _ h => by cases h) hb.1, by simpa using hb.2, h.ob_lt hb.1⟩) (by cases (g.base o).ownBlock <;> simp)
    (fun b hb => ⟨h.ob_lt (hsub b hb), .inl (hsub b hb), .inl (h.own_mine ho (fun _ h => by cases h) (hsub b hb))⟩) (fun a ha => absurd ha (h.noE ho (fun _ h => by cases h) a)) (fun v hv => (h.exB o v hv).2 _ ho) ?_ fun _ _ => ?_
  · intro r u hs
    rw [ho] at hs
    rw [St.setO_same, Gh.setO_eq.1, Gh.setO_eq.2.1]
    exact see_shallow hs
  · unfold ObR; rw [St.setO_same]; rw [Gh.setO_eq.2.1, Gh.setO_eq.2.2]
    exact hob.shallow.resolve_right fun hn => hn (h.nod o)
end
end Go.LX
