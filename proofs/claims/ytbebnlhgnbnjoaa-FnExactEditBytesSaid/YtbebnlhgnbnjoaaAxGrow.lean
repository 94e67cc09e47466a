/- New owned slices; an owned slice that grows. -/
import Derived.Test.YtbebnlhgnbnjoaaAxMake
namespace Go.AX

variable {P : Program} {σ : St}

/-- A block that nothing in the state speaks of. -/
structure Free (K : Ctx) (w : World) (I : Nat → Prop) (g : Gh) (σ : St) (b : Nat) : Prop where
  i : ¬ I b
  l : ∀ p, b ∉ g.L p
  o : ∀ o, (σ.boxes o).isSome = true → b ≠ (g.addr o).1
  k : b < K.w0.heap.size → K.X b

theorem Inv.scribble {K : Ctx} {w w' : World} {I : Nat → Prop} {g : Gh} {tm : Array Value} (h : Inv K w I g σ tm) {b0 : Option Nat} (hb : ∀ b, b0 = some b → Free K w I g σ b) (hg : w.grownBy w' b0) : Inv K w' I g σ tm := by
  have blk : ∀ b, b < w.heap.size → b0 ≠ some b → w'.heap[b]? = w.heap[b]? := fun b hlt hne => hg.block b hlt (fun e => hne e.symm)
  have hI : ∀ b, I b → w'.heap[b]? = w.heap[b]? := fun b hb' => blk b (h.immX b hb').1 fun e => (hb b e).i hb'
  have hL : ∀ p b, b ∈ g.L p → w'.heap[b]? = w.heap[b]? := fun p b hb' => blk b (h.own p b hb').2.1 fun e => (hb b e).l p hb'
  have hB : ∀ o, (σ.boxes o).isSome = true → w'.heap[(g.addr o).1]? = w.heap[(g.addr o).1]? := fun o ho => blk _ (h.boxi o ho).2.2.1 fun e => (hb _ e).o o ho rfl
  have cell : ∀ {b}, w'.heap[b]? = w.heap[b]? → ∀ o, w'.cell? ⟨b, o, none⟩ = w.cell? ⟨b, o, none⟩ := fun he o => World.cell?_of_block (a := ⟨_, o, none⟩) he
  have hreal : ∀ p, σ.absAt p ≠ none → realAt w' g tm p = realAt w g tm p := by
    intro p hp
    unfold realAt
    split
    · rename_i hbx
      have : (σ.boxes p.id).isSome = true := by
        simp only [St.absAt, hbx, if_true] at hp
        cases hq : σ.boxes p.id with
        | none => simp [hq] at hp
        | some cs => rfl
      exact cell (hB p.id this) _
    · rfl
  have hCR : ∀ pl c v, CR w I g σ tm pl c v → CR w' I g σ tm pl c v := by
    intro pl c v hc
    have hI' : ∀ b, I b → ∀ o, w'.cell? ⟨b, o, none⟩ = w.cell? ⟨b, o, none⟩ := fun b hb => cell (hI b hb)
    have hIL : ∀ p b, (I b ∨ b ∈ g.L p) → ∀ o, w'.cell? ⟨b, o, none⟩ = w.cell? ⟨b, o, none⟩ := fun p b hb => hb.elim (fun h => cell (hI b h)) fun h => cell (hL p b h)
    cases c with
    | d x => exact hc.kept (fun _ h => h) hI'
    | ow e size k rs => exact ⟨ROT.kept hc.1 (fun _ h => h) hI' fun b hb => hL _ b hb, hc.2⟩
    | any => trivial
    | nl => exact hc
    | vp p cs => exact hc.kept (fun _ h => h) (hIL p)
    | bp o c => exact hc
    | fc fn caps => exact hc
    | vw p whole rs =>
      refine ⟨hc.1.kept (fun _ h => h) (hIL p), fun hwh => ?_⟩
      obtain ⟨h1, e, size, k, h2⟩ := hc.2 hwh
      exact ⟨by rw [hreal p (by rw [h2]; simp)]; exact h1, e, size, k, h2⟩
    | ep p i j =>
      obtain ⟨b, n, cap, e, size, k, rs, h1, h2, h3, h4⟩ := hc
      exact ⟨b, n, cap, e, size, k, rs, by rw [hreal p (by rw [h2]; simp)]; exact h1, h2, h3, h4⟩
  have hold : ∀ b, b < K.w0.heap.size → ¬ K.X b → w'.heap[b]? = w.heap[b]? := fun b hlt hX => blk b (Nat.lt_of_lt_of_le hlt h.fr.size) fun e => hX ((hb b e).k hlt)
  exact { h with
    fr := ⟨hg.os.trans h.fr.os, hg.tape.trans h.fr.tape, hg.output.trans h.fr.output, Nat.le_trans h.fr.size hg.size, fun b hlt hX hR => (hold b hlt hX).trans (h.fr.old b hlt hX hR),
      fun b hlt hX o hR => (cell (hold b hlt hX) o).trans (h.fr.part b hlt hX o hR), fun b hlt hX o => (World.frozen?_of_block (a := ⟨b, o, none⟩) (hold b hlt hX)).trans (h.fr.froz b hlt hX o)⟩
    immX := fun b hb' => ⟨Nat.lt_of_lt_of_le (h.immX b hb').1 hg.size, (h.immX b hb').2⟩
    own := fun p b hb' => ⟨(h.own p b hb').1, Nat.lt_of_lt_of_le (h.own p b hb').2.1 hg.size, (h.own p b hb').2.2⟩
    boxi := fun o ho => ⟨(h.boxi o ho).1, (h.boxi o ho).2.1, Nat.lt_of_lt_of_le (h.boxi o ho).2.2.1 hg.size, (h.boxi o ho).2.2.2⟩
    boxc := fun o cs ho j c hj => by
      obtain ⟨u, h1, h2, h3, h4, h5⟩ := h.boxc o cs ho j c hj
      have he := hB o (by rw [ho]; rfl)
      exact ⟨u, (cell he _).trans h1, (World.frozen?_of_block (a := ⟨_, _, none⟩) he).trans h2, h3, h4, hCR _ _ _ h5⟩
    slot := fun t i c hi => by
      obtain ⟨u, h1, h2⟩ := h.slot t i c hi
      exact ⟨u, h1, hCR _ _ _ h2⟩ }

/-- Slot t takes an owned slice whose blocks are free. -/
theorem Inv.take {K : Ctx} {w : World} {I : Nat → Prop} {g : Gh} {tm : Array Value} (hi : Inv K w I g σ tm) {t : Nat} (ht : t < σ.n) (h0 : (σ.slots t).noOw = true) {e : Tag} {size k : Nat} {rs : List (List D)} {v : Value} {L : List Nat}
    (h1 : L.Nodup) (h2 : ∀ b ∈ L, Free K w I g σ b) (hpin : e.pin = none) (hc : ROT (RO w I k) w I e.ty size rs v L) : ∃ g', Inv K w I g' (σ.put t (.one (.ow e size k rs))) (tm.setIfInBounds t v) := by
  have hlt : t < tm.size := by rw [hi.size]; exact ht
  have hget : (tm.setIfInBounds t v).getD t undef = v := by simp [Array.getD_eq_getD_getElem?, hlt]
  have hoth : ∀ t', t' ≠ t → (tm.setIfInBounds t v).getD t' undef = tm.getD t' undef := fun t' hne => by simp [Array.getD_eq_getD_getElem?, Ne.symm hne]
  let p0 : Pl := ⟨false, t, 0⟩
  let g' : Gh := { g with L := fun p => if p = p0 then L else g.L p }
  have hL0 : g.L p0 = [] := by
    refine hi.nil p0 fun e size k rs hh => ?_
    rcases absAt_put h0 hh with h | h
    · cases h
    · exact h rfl
  have hone : v.oneCell' = true := by
    obtain ⟨xs, L', ho, _⟩ := hc
    rcases ho.2 with ⟨rfl, _⟩ | ⟨g, cap, cur, rfl, _⟩ <;> rfl
  have hLsub : ∀ p b, b ∈ g.L p → b ∈ g'.L p := by
    intro p b hb
    by_cases hp : p = p0
    · rw [hp, hL0] at hb; cases hb
    · show b ∈ (if p = p0 then L else g.L p)
      rw [if_neg hp]; exact hb
  have hLmem : ∀ p b, b ∈ g'.L p → b ∈ g.L p ∨ (p = p0 ∧ b ∈ L) := by
    intro p b hb
    by_cases hp : p = p0
    · have : g'.L p = L := if_pos hp
      rw [this] at hb; exact .inr ⟨hp, hb⟩
    · have : g'.L p = g.L p := if_neg hp
      rw [this] at hb; exact .inl hb
  have hCR : ∀ pl c u, pl ≠ p0 → CR w I g σ tm pl c u → CR w I g' (σ.put t (.one (.ow e size k rs))) (tm.setIfInBounds t v) pl c u :=
    fun pl c u hpl hcr => (hcr.put h0).wider (fun _ h => h) rfl hLsub (fun _ => if_neg hpl)
  refine ⟨g', {
    fr := hi.fr
    size := by simpa [St.put] using hi.size
    imm0 := hi.imm0
    immX := hi.immX
    dis := fun p q b hp hq => by
      rcases hLmem p b hp with hp' | ⟨ep, hp'⟩ <;> rcases hLmem q b hq with hq' | ⟨eq, hq'⟩
      · exact hi.dis p q b hp' hq'
      · exact absurd hp' ((h2 b hq').l p)
      · exact absurd hq' ((h2 b hp').l q)
      · exact ep.trans eq.symm
    nod := fun p => by
      show (if p = p0 then L else g.L p).Nodup
      split
      · exact h1
      · exact hi.nod p
    own := fun p b hb => by
      rcases hLmem p b hb with hb' | ⟨_, hb'⟩
      · exact hi.own p b hb'
      · exact ⟨(h2 b hb').i, ROT.lt hc b hb', (h2 b hb').k⟩
    nil := fun p hp => by
      show (if p = p0 then L else g.L p) = []
      split
      · rename_i hpp
        subst hpp
        exact absurd (by simp [St.absAt, p0, St.put_same, SV.cells]) (hp e size k rs)
      · rename_i hpp
        refine hi.nil p fun e1 s1 k1 rs1 hh => hp e1 s1 k1 rs1 ?_
        rw [absAt_put_other (absAt_put h0 hh)]; exact hh
    boxd := hi.boxd
    boxi := fun o ho => by
      obtain ⟨b1, b2, b3, b4⟩ := hi.boxi o ho
      refine ⟨b1, fun p hp => ?_, b3, b4⟩
      rcases hLmem p _ hp with hp | ⟨_, hp⟩
      · exact b2 p hp
      · exact (h2 _ hp).o o ho rfl
    boxc := fun o cs ho j c hj => by
      obtain ⟨u, e1, e2, e3, e4, e5⟩ := hi.boxc o cs ho j c hj
      exact ⟨u, e1, e2, e3, e4, hCR _ _ _ (by simp [p0]) e5⟩
    shape := fun t' => by
      by_cases he : t' = t
      · subst he; rw [St.put_same, hget]; exact hone
      · rw [St.put_other _ _ _ _ he, hoth t' he]; exact hi.shape t'
    slot := fun t' i c hi' => by
      by_cases he : t' = t
      · subst he
        rw [St.put_same] at hi'
        rw [hget]
        obtain ⟨rfl, rfl⟩ := one_cell hi'
        refine ⟨v, by revert hone; cases v <;> simp [Value.oneCell', valCells, Value.cells], ?_⟩
        show ROT (RO w I k) w I e.ty size rs v (if p0 = p0 then L else g.L p0) ∧ _
        rw [if_pos rfl]; exact ⟨hc, fun v hv => by rw [hpin] at hv; cases hv⟩
      · rw [St.put_other _ _ _ _ he] at hi'
        rw [hoth t' he]
        obtain ⟨u, hu, hr⟩ := hi.slot t' i c hi'
        exact ⟨u, hu, hCR _ _ _ (by intro hh; exact he (congrArg Pl.id hh)) hr⟩ }⟩

theorem OC.im {w : World} {I : Nat → Prop} : ∀ {ds : List D} {us : List Value}, All2 (Rd w I) ds us → OC (RO w I 0) w I ds us []
  | [], [], _ => rfl
  | d :: ds, u :: us, h => by
    refine ⟨[], [], rfl, ?_, OC.im h.2⟩
    cases d with
    | sl rs => exact ⟨rfl, h.1⟩
    | v x => exact ⟨rfl, h.1⟩
    | p cs => exact ⟨rfl, h.1⟩
    | f fn caps => exact ⟨rfl, h.1⟩
  | [], _ :: _, h => h.elim
  | _ :: _, [], h => h.elim
theorem OC.im_iff {w : World} {I : Nat → Prop} : ∀ {ds : List D} {us : List Value} {L : List Nat}, OC (RO w I 0) w I ds us L → All2 (Rd w I) ds us ∧ L = []
  | [], [], _, h => ⟨trivial, h⟩
  | d :: ds, u :: us, L, h => by
    obtain ⟨L1, L2, rfl, h1, h2⟩ := h
    obtain ⟨a, rfl⟩ := OC.im_iff h2
    have h3 : Rd w I d u ∧ L1 = [] := by
      cases d with
      | sl rs => exact ⟨h1.2, h1.1⟩
      | v x => exact ⟨h1.2, h1.1⟩
      | p cs => exact ⟨h1.2, h1.1⟩
      | f fn caps => exact ⟨h1.2, h1.1⟩
    obtain ⟨h3, rfl⟩ := h3
    exact ⟨⟨h3, a⟩, rfl⟩
  | [], _ :: _, _, h => h.elim
  | _ :: _, [], _, h => h.elim

/-- An operation that yields a new slice, owned. -/
theorem OpW_new {o : Oper} {t : Nat} {e : TypeId} {size : Nat} {rs : List (List D)} {N : St → Prop} (hd : o.dst = some t) (ht : Nat.blt t σ.n = true) (h0 : (σ.slots t).noOw = true)
    (h : ∀ (K : Ctx) (w : World) (I : Nat → Prop) (g : Gh) (tm : Array Value), Inv K w I g σ tm → ∃ v w' xs, (execOp (Act.eval ⟨tm, []⟩) o).run P w = .ok (.value v) w' ∧ w.grownBy w' none ∧ w'.ownsRow w.heap.size e size v rs.length xs ∧ All2 (Rd w I) rs.flatten xs)
    (hl : ∀ r ∈ rs, r.length = size) (hN : N (σ.put t (.one (.ow ⟨e, none⟩ size 0 rs)))) : OpW P o N σ := by
  intro K w I g tm hi
  obtain ⟨v, w', xs, hr, hg, ho, ha⟩ := h K w I g tm hi
  rw [hr]
  simp only [Oper.upon, Act.put, hd]
  have hi' := hi.scribble (b0 := none) (fun _ h => by cases h) hg
  have hroc : ROT (RO w' I 0) w' I e size rs v v.ownBlock.toList := by
    refine ⟨xs, [], ⟨ho.1, ho.2.imp id fun ⟨g, cap, cur, h1, _, h3⟩ => ⟨g, cap, cur, h1, Nat.zero_le _, h3⟩⟩, hl, OC.im (ha.mono fun a _ b h => h.kept (fun _ h => h) fun b hb o => ?_), by simp⟩
    exact World.cell?_of_block (a := ⟨b, o, none⟩) (hg.block b (hi.immX b hb).1 (by simp))
  obtain ⟨g', hfin⟩ := hi'.take (Nat.le_of_ble_eq_true ht) h0 (L := v.ownBlock.toList) (by cases v.ownBlock <;> simp) (fun b hb => by
    have hb' : v.ownBlock = some b := by simpa using hb
    have hge := (ho.lt b hb').1
    refine ⟨fun hI => ?_, fun p hp => ?_, fun o' ho' he => ?_, fun hlt => ?_⟩
    · have := (hi.immX b hI).1; omega
    · have := (hi.own p b hp).2.1; omega
    · have := (hi.boxi o' ho').2.2.1; omega
    · have := hi.fr.size; omega) (e := ⟨e, none⟩) rfl hroc
  exact ⟨trivial, _, I, g', hN, hfin⟩

end Go.AX
