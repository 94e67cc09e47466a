/- Elements of owned slices, read and written; functions that write into what they are handed. -/
import Derived.Test.YtbebnlhgnbnjoaaAxEnd
set_option linter.unusedVariables false
set_option linter.unusedSimpArgs false
namespace Go.AX

variable {P : Program} {σ : St}

/-- The whole views of p show rs from now on. -/
def C.refr (p : Pl) (rs' : List (List D)) : C → C
  | .vw q wh rs => bif q.beq p then (bif wh then .vw q true rs' else .any) else .vw q wh rs
  | .vp q cs => bif q.beq p then .any else .vp q cs
  | c => c
/-- The rows that p owns, told anew. -/
def St.upd (σ : St) (p : Pl) (e : Tag) (size k : Nat) (rs' : List (List D)) : St := (σ.map (C.refr p rs')).setP p (.ow e size k rs')

theorem beq_false {p q : Pl} (h : p ≠ q) : p.beq q = false := by
  cases hb : p.beq q with
  | true => exact absurd (Pl.beq_iff.1 hb) h
  | false => rfl

theorem Inv.restore {K : Ctx} {w w' : World} {I : Nat → Prop} {g : Gh} {tm : Array Value} (h : Inv K w I g σ tm) {p : Pl} {e : Tag} {size k : Nat} {rs rs' : List (List D)} (hp : σ.absAt p = some (.ow e size k rs)) {b0 : Option Nat} (hb0 : ∀ b, b0 = some b → b ∈ g.L p)
    (hg : w.grownBy w' b0) (hroc : ∀ u, realAt w g tm p = some u → ROT (RO w' I k) w' I e.ty size rs' u (g.L p)) (hlen : rs'.length = rs.length) : Inv K w' I g (σ.upd p e size k rs') tm := by
  have blk : ∀ b, b < w.heap.size → b0 ≠ some b → w'.heap[b]? = w.heap[b]? := fun b hlt hne => hg.block b hlt (fun e => hne e.symm)
  have hI : ∀ b, I b → w'.heap[b]? = w.heap[b]? := fun b hb' => blk b (h.immX b hb').1 fun e => (h.own p b (hb0 b e)).1 hb'
  have hL : ∀ q b, q ≠ p → b ∈ g.L q → w'.heap[b]? = w.heap[b]? := fun q b hq hb' => blk b (h.own q b hb').2.1 fun e => hq (h.dis q p b hb' (hb0 b e))
  have hB : ∀ o, (σ.boxes o).isSome = true → w'.heap[(g.addr o).1]? = w.heap[(g.addr o).1]? := fun o ho => blk _ (h.boxi o ho).2.2.1 fun e => (h.boxi o ho).2.1 p (hb0 _ e)
  have cell : ∀ {b}, w'.heap[b]? = w.heap[b]? → ∀ o, w'.cell? ⟨b, o, none⟩ = w.cell? ⟨b, o, none⟩ := fun he o => World.cell?_of_block (a := ⟨_, o, none⟩) he
  have hreal : ∀ q, σ.absAt q ≠ none → realAt w' g tm q = realAt w g tm q := by
    intro q hq
    unfold realAt
    split
    · rename_i hbx
      have : (σ.boxes q.id).isSome = true := by
        simp only [St.absAt, hbx, if_true] at hq
        cases hqq : σ.boxes q.id with
        | none => simp [hqq] at hq
        | some cs => rfl
      exact cell (hB q.id this) _
    · rfl
  have hpm : (σ.map (C.refr p rs')).absAt p = some (.ow e size k rs) := by rw [absAt_map, hp]; rfl
  have hps : (σ.upd p e size k rs').absAt p = some (.ow e size k rs') := absAt_setP_same hpm
  have hos : ∀ q, q ≠ p → (σ.upd p e size k rs').absAt q = (σ.absAt q).map (C.refr p rs') := fun q hq => by rw [St.upd, absAt_setP_other hpm hq, absAt_map]
  have hisS : ∀ o, ((σ.upd p e size k rs').boxes o).isSome = (σ.boxes o).isSome := fun o => map_setP_isSome ..
  have hCR : ∀ q c u, σ.absAt q = some c → realAt w g tm q = some u → CR w I g σ tm q c u → ∀ c', (σ.upd p e size k rs').absAt q = some c' → CR w' I g (σ.upd p e size k rs') tm q c' u := by
    intro q c u hq hu hc c' hc'
    have hI' : ∀ b, I b → ∀ o, w'.cell? ⟨b, o, none⟩ = w.cell? ⟨b, o, none⟩ := fun b hb => cell (hI b hb)
    have hIL : ∀ r, r ≠ p → ∀ b, (I b ∨ b ∈ g.L r) → ∀ o, w'.cell? ⟨b, o, none⟩ = w.cell? ⟨b, o, none⟩ := fun r hr b hb => hb.elim (fun h => cell (hI b h)) fun h => cell (hL r b hr h)
    by_cases hqp : q = p
    · subst hqp
      rw [hps] at hc'
      obtain rfl := Option.some.inj hc'
      rw [hp] at hq
      obtain rfl := Option.some.inj hq
      exact ⟨hroc u hu, hc.2⟩
    · rw [hos q hqp, hq] at hc'
      simp only [Option.map_some, Option.some.injEq] at hc'
      subst hc'
      cases c with
      | d x => exact hc.kept (fun _ h => h) hI'
      | ow e1 s1 k1 rs1 => exact ⟨ROT.kept hc.1 (fun _ h => h) hI' fun b hb => hL q b hqp hb, hc.2⟩
      | any => trivial
      | nl => exact hc
      | bp o c => exact ⟨hc.1, by rw [hisS]; exact hc.2⟩
      | fc fn caps => obtain ⟨vs, h1, h2⟩ := hc; exact ⟨vs, h1, h2.mono fun o _ v hv => ⟨hv.1, by rw [hisS]; exact hv.2⟩⟩
      | vp r cs =>
        by_cases hr : r = p
        · subst hr; simp [C.refr, Pl.beq_iff.2, CR]
        · simp only [C.refr, beq_false hr, cond_false]
          exact hc.kept (fun _ h => h) (hIL r hr)
      | vw r wh rs1 =>
        by_cases hr : r = p
        · subst hr
          cases wh with
          | false => simp [C.refr, Pl.beq_iff.2, CR]
          | true =>
            simp only [C.refr, Pl.beq_iff.2, cond_true]
            obtain ⟨h1, _⟩ := hc.2 rfl
            refine ⟨ROT.rd (hroc u h1), fun _ => ⟨?_, e, size, k, hps⟩⟩
            rw [hreal r (by rw [hp]; simp)]; exact h1
        · simp only [C.refr, beq_false hr, cond_false]
          refine ⟨hc.1.kept (fun _ h => h) (hIL r hr), fun hw => ?_⟩
          obtain ⟨h1, e1, s1, k1, h2⟩ := hc.2 hw
          exact ⟨by rw [hreal r (by rw [h2]; simp)]; exact h1, e1, s1, k1, by rw [hos r hr, h2]; rfl⟩
      | ep r i j =>
        obtain ⟨b, n, cap, e1, s1, k1, rs1, h1, h2, h3, h4⟩ := hc
        by_cases hr : r = p
        · subst hr
          rw [hp] at h2
          cases h2
          exact ⟨b, n, cap, e, size, k, rs', by rw [hreal r (by rw [hp]; simp)]; exact h1, hps, by omega, h4⟩
        · exact ⟨b, n, cap, e1, s1, k1, rs1, by rw [hreal r (by rw [h2]; simp)]; exact h1, by rw [hos r hr, h2]; rfl, h3, h4⟩
  have hold : ∀ b, b < K.w0.heap.size → ¬ K.X b → w'.heap[b]? = w.heap[b]? := fun b hlt hX => blk b (Nat.lt_of_lt_of_le hlt h.fr.size) fun e => hX ((h.own p b (hb0 b e)).2.2 hlt)
  have back : ∀ q c', (σ.upd p e size k rs').absAt q = some c' → ∃ c, σ.absAt q = some c := by
    intro q c' hc'
    by_cases hqp : q = p
    · subst hqp; exact ⟨_, hp⟩
    · rw [hos q hqp] at hc'
      cases hq : σ.absAt q with
      | none => rw [hq] at hc'; cases hc'
      | some c => exact ⟨c, rfl⟩
  exact {
    fr := ⟨hg.os.trans h.fr.os, hg.tape.trans h.fr.tape, hg.output.trans h.fr.output, Nat.le_trans h.fr.size hg.size, fun b hlt hX hR => (hold b hlt hX).trans (h.fr.old b hlt hX hR),
      fun b hlt hX o hR => (cell (hold b hlt hX) o).trans (h.fr.part b hlt hX o hR), fun b hlt hX o => (World.frozen?_of_block (a := ⟨b, o, none⟩) (hold b hlt hX)).trans (h.fr.froz b hlt hX o)⟩
    size := by rw [show (σ.upd p e size k rs').n = σ.n from map_setP_n ..]; exact h.size
    imm0 := h.imm0
    immX := fun b hb' => ⟨Nat.lt_of_lt_of_le (h.immX b hb').1 hg.size, (h.immX b hb').2⟩
    dis := h.dis
    nod := h.nod
    own := fun q b hb' => ⟨(h.own q b hb').1, Nat.lt_of_lt_of_le (h.own q b hb').2.1 hg.size, (h.own q b hb').2.2⟩
    nil := fun q hq => by
      by_cases hqp : q = p
      · subst hqp; exact absurd hps (hq e size k rs')
      · refine h.nil q fun e1 s1 k1 rs1 hh => hq e1 s1 k1 rs1 ?_
        rw [hos q hqp, hh]; rfl
    boxd := fun o o' ho ho' => h.boxd o o' (by rw [← hisS]; exact ho) (by rw [← hisS]; exact ho')
    boxi := fun o ho => by
      have := h.boxi o (by rw [← hisS]; exact ho)
      exact ⟨this.1, this.2.1, Nat.lt_of_lt_of_le this.2.2.1 hg.size, this.2.2.2⟩
    boxc := fun o cs ho j c hj => by
      have hab : (σ.upd p e size k rs').absAt ⟨true, o, j⟩ = some c := by simp [St.absAt, ho, hj]
      obtain ⟨c0, hc0⟩ := back _ _ hab
      have hso : (σ.boxes o).isSome = true := by rw [← hisS, ho]; rfl
      cases hq : σ.boxes o with
      | none => rw [hq] at hso; cases hso
      | some cs0 =>
        have hj0 : cs0[j]? = some c0 := by simpa [St.absAt, hq] using hc0
        obtain ⟨u, h1, h2, h3, h4, h5⟩ := h.boxc o cs0 hq j c0 hj0
        have he := hB o hso
        exact ⟨u, (cell he _).trans h1, (World.frozen?_of_block (a := ⟨_, _, none⟩) he).trans h2, h3, h4, hCR _ _ _ hc0 (by unfold realAt; rw [if_pos rfl]; exact h1) h5 c hab⟩
    shape := fun t => map_setP_shape h _ _ _ t
    slot := fun t i c hi => by
      have hab : (σ.upd p e size k rs').absAt ⟨false, t, i⟩ = some c := by simp [St.absAt, hi]
      obtain ⟨c0, hc0⟩ := back _ _ hab
      have hi0 : (σ.slots t).cells[i]? = some c0 := by simpa [St.absAt] using hc0
      obtain ⟨u, h1, h2⟩ := h.slot t i c0 hi0
      exact ⟨u, h1, hCR _ _ _ hc0 (by unfold realAt; rw [if_neg (by simp)]; exact h1) h2 c hab⟩ }

/-! ### Elements -/
theorem own_slice {w : World} {I : Nat → Prop} {k : Nat} {e : TypeId} {size : Nat} {rs : List (List D)} {u : Value} {L : List Nat} (h : ROT (RO w I k) w I e size rs u L) {i : Nat} (hi : i < rs.length) : ∃ b cap, u = .slice (some ⟨b, 0, none⟩) rs.length cap := by
  obtain ⟨xs, L', ho, _⟩ := h
  rcases ho.2 with ⟨_, hn⟩ | ⟨g, cap, cur, rfl, _⟩
  · omega
  · exact ⟨g, cap, rfl⟩

theorem op_index_ep {o : Oper} {t size k : Nat} {ty e0 : TypeId} {e : Tag} {x y : Operand} {p : Pl} {rs rs0 : List (List D)} {kk : IntKind} {i : Int} {N : St → Prop} (ho : o.op = .indexAddr ty x y) (hd : o.dst = some t) (ht : Nat.blt t σ.n = true) (h0 : (σ.slots t).noOw = true)
    (hty : P.underlying ty = some (.slice e0)) (hs : sizeB P e0 = some size) (hx : σ.evv x = .one (.vw p true rs0)) (hp : σ.absAt p = some (.ow e size k rs)) (hy : σ.ev y = .one (.d (.v (.int kk i)))) (hi0 : 0 ≤ i) (hi1 : i < rs.length)
    (hN : N (σ.put t (.one (.ep p i.toNat 0)))) : OpW P o N σ := by
  refine OpW_put hd ht h0 (fun K w I g tm hi => ?_) hN
  obtain ⟨hsh, hcs⟩ := hi.evv x hx
  obtain ⟨_, u, hu, hr⟩ := hcs 0 _ rfl
  have h1 : (Act.eval ⟨tm, []⟩ x).oneCell' = true := hsh
  have hv : valCells (Act.eval ⟨tm, []⟩ x) = [Act.eval ⟨tm, []⟩ x] := by
    revert h1
    cases Act.eval ⟨tm, []⟩ x <;> simp [Value.oneCell', valCells, Value.cells]
  rw [hv] at hu
  simp at hu
  subst hu
  obtain ⟨hreal, _⟩ := (hr ⟨false, 0, 0⟩).2 rfl
  obtain ⟨u', hu', hcr⟩ := hi.at hp
  rw [hreal] at hu'
  obtain rfl := Option.some.inj hu'
  obtain ⟨n, rfl⟩ := Int.eq_ofNat_of_zero_le hi0
  obtain ⟨b, cap, hsl⟩ := own_slice hcr.1 (i := n) (by omega)
  have ey := hi.ev_v hy
  refine ⟨.pointer (some ⟨b, 0 + n * size, none⟩), ?_, rfl, fun i c' hc' => ?_⟩
  · have := run_indexAt (k := kk) (b := b) (o := 0) (cap := cap) hty hs (show n < rs.length by omega) w
    simp [execOp, ho, hsl, ey, this]
  · obtain ⟨rfl, rfl⟩ := one_cell hc'
    rw [hsl] at hreal
    exact ⟨_, rfl, b, rs.length, cap, e, size, k, rs, hreal, hp, by simp; omega, by simp⟩

/-- A flat owned slice, cell by cell. -/
theorem own_cell {w : World} {I : Nat → Prop} {e : TypeId} {size : Nat} {rs : List (List D)} {b n cap : Nat} {L : List Nat} (h : ROT (RO w I 0) w I e size rs (.slice (some ⟨b, 0, none⟩) n cap) L) {i j : Nat} {row : List D} {d : D} (hr : rs[i]? = some row) (hd : row[j]? = some d) :
    ∃ u, w.cell? ⟨b, i * size + j, none⟩ = some u ∧ w.frozen? ⟨b, i * size + j, none⟩ = false ∧ Rd w I d u := by
  obtain ⟨xs, L', ho, hrl, hoc, _⟩ := h
  obtain ⟨hall, _⟩ := hoc.im_iff
  have hrow := flat_row hrl hr
  have hjs : j < size := by
    have := hrl row (List.mem_of_getElem? hr)
    have := (List.getElem?_eq_some_iff.1 hd).1
    omega
  have hfd : rs.flatten[i * size + j]? = some d := by
    rw [← hrow, List.getElem?_take, if_pos hjs, List.getElem?_drop] at hd
    exact hd
  obtain ⟨u, hu, hr'⟩ := hall.get hfd
  have hn : n = rs.length := by
    rcases ho.2 with ⟨hh, _⟩ | ⟨g, cap', cur, hh, _⟩
    · cases hh
    · cases hh; rfl
  subst hn
  have hlt : i * size + j < rs.length * size := by
    have := (List.getElem?_eq_some_iff.1 hfd).1
    rwa [flat_len hrl] at this
  exact ⟨u, by rw [ho.cellAt _ hlt]; exact hu, ho.frozenAt _, hr'⟩

theorem op_load_ep {o : Oper} {t size i j : Nat} {ty : TypeId} {e : Tag} {x : Operand} {p : Pl} {rs : List (List D)} {row : List D} {d : D} {N : St → Prop} (ho : o.op = .load ty x) (hd : o.dst = some t) (ht : Nat.blt t σ.n = true) (h0 : (σ.slots t).noOw = true)
    (hx : σ.ev x = .one (.ep p i j)) (hp : σ.absAt p = some (.ow e size 0 rs)) (hag : aggB P ty = some false) (hr : rs[i]? = some row) (hrd : row[j]? = some d) (hN : N (σ.put t (.one (.d d)))) : OpW P o N σ := by
  refine OpW_put hd ht h0 (fun K w I g tm hi => ?_) hN
  obtain ⟨pl, hcr, _, _⟩ := hi.ev_one hx
  obtain ⟨b, n, cap, e1, s1, k1, rs1, h1, h2, h3, h4⟩ := hcr
  rw [hp] at h2
  cases h2
  obtain ⟨u', hu', hcr'⟩ := hi.at hp
  rw [h1] at hu'
  cases hu'
  obtain ⟨u, hc, _, hrdd⟩ := own_cell hcr'.1 hr hrd
  have hone := hrdd.oneCell
  refine ⟨u, ?_, hone, fun i c' hi' => ?_⟩
  · simp [execOp, ho, h4, Instr.loadAt, Instr.sureAddr, run_loadVar_one hag hc]
  · obtain ⟨rfl, rfl⟩ := one_cell hi'
    exact ⟨u, by revert hone; cases u <;> simp [Value.oneCell', valCells, Value.cells], hrdd⟩

theorem set_flat {α : Type} {rs : List (List α)} {size i j : Nat} {row : List α} {a : α} (hrl : ∀ r ∈ rs, r.length = size) (hr : rs[i]? = some row) (hj : j < size) : (rs.set i (row.set j a)).flatten = rs.flatten.set (i * size + j) a := by
  induction rs generalizing i with
  | nil => simp at hr
  | cons r rs ih =>
    have hl := hrl r (by simp)
    cases i with
    | zero =>
      simp at hr
      subst hr
      simp only [List.set_cons_zero, List.flatten_cons, Nat.zero_mul, Nat.zero_add]
      rw [List.set_append_left _ _ (by omega)]
    | succ i =>
      simp only [List.set_cons_succ, List.flatten_cons]
      rw [ih (fun r hr => hrl r (by simp [hr])) (by simpa using hr), List.set_append_right _ _ (by rw [hl, Nat.add_mul]; omega)]
      congr 2
      rw [hl, Nat.add_mul]; omega
theorem All2.set {α β : Type} {R : α → β → Prop} {a : α} {b : β} (hab : R a b) : ∀ {as : List α} {bs : List β} {i : Nat}, All2 R as bs → All2 R (as.set i a) (bs.set i b)
  | [], [], _, _ => trivial
  | _ :: _, _ :: _, 0, h => ⟨hab, h.2⟩
  | _ :: _, _ :: _, i + 1, h => ⟨h.1, All2.set hab h.2⟩
  | [], _ :: _, _, h => h.elim
  | _ :: _, [], _, h => h.elim

theorem op_store_ep {o : Oper} {size i j : Nat} {ty : TypeId} {e : Tag} {x y : Operand} {p : Pl} {rs : List (List D)} {row : List D} {v : Value} {N : St → Prop} (ho : o.op = .store ty x y) (hd : o.dst = none)
    (hx : σ.ev x = .one (.ep p i j)) (hp : σ.absAt p = some (.ow e size 0 rs)) (hy : σ.ev y = .one (.d (.v v))) (hsz : sizeB P ty = some 1) (hr : rs[i]? = some row) (hj : j < row.length)
    (hN : N (σ.upd p e size 0 (rs.set i (row.set j (.v v))))) : OpW P o N σ := by
  intro K w I g tm hi
  obtain ⟨pl, hcr, _, _⟩ := hi.ev_one hx
  obtain ⟨b, n, cap, e1, s1, k1, rs1, h1, h2, h3, h4⟩ := hcr
  rw [hp] at h2
  cases h2
  obtain ⟨u', hu', hcr'⟩ := hi.at hp
  rw [h1] at hu'
  cases hu'
  have ey := hi.ev_v hy
  obtain ⟨ply, hry, hyone, _⟩ := hi.ev_one hy
  rw [ey] at hyone hry
  have hsc : scal v = true := (Rd.v.1 hry).2
  obtain ⟨u, hc, hfr, _⟩ := own_cell hcr'.1 hr (List.getElem?_eq_getElem hj)
  have hrun : (execOp (Act.eval ⟨tm, []⟩) o).run P w = .ok .skip (w.setCell ⟨b, i * size + j, none⟩ v) := by
    have hcs : v.cells = #[v] := by revert hyone; cases v <;> simp [Value.oneCell', Value.cells]
    have := run_storeVar_box (P := P) (ty := ty) (b := b) (o := i * size + j) (w := w) (v := v) (by rw [hsz, hcs]; rfl) (by
      rw [hcs]; intro j' hj'
      have : j' = 0 := by simp at hj'; omega
      subst this
      exact ⟨by rw [Nat.add_zero, hc]; rfl, hfr⟩) (by rw [hcs]; intro u hu; simp at hu; rw [hu]; exact hyone)
    rw [hcs] at this
    simp [execOp, ho, h4, ey, Instr.storeAt, Instr.sureAddr, this, putC]
  rw [hrun]
  simp only [Oper.upon, Act.put, hd]
  obtain ⟨xs, L', hor, hrl, hoc, hL⟩ := hcr'.1
  obtain ⟨hall, rfl⟩ := hoc.im_iff
  have hn : n = rs.length := by
    rcases hor.2 with ⟨hh, _⟩ | ⟨g, cap', cur, hh, _⟩
    · cases hh
    · cases hh; rfl
  subst hn
  obtain ⟨hst, hgr⟩ := hor.stored (i * size + j) v
  have hbL : b ∈ g.L p := by rw [hL]; simp [Value.ownBlock]
  refine ⟨trivial, _, I, g, hN, hi.restore hp (b0 := some b) (fun b' hb' => by cases hb'; exact hbL) hgr (fun u hu => ?_) (by simp)⟩
  rw [h1] at hu
  cases hu
  have hrl' : row.length = size := hrl row (List.mem_of_getElem? hr)
  refine ⟨xs.set (i * size + j) v, [], by rw [List.length_set]; exact hst, ?_, ?_, hL⟩
  · intro r hr'
    rcases List.mem_or_eq_of_mem_set hr' with h | h
    · exact hrl r h
    · rw [h, List.length_set]; exact hrl'
  · rw [set_flat hrl hr (by omega)]
    have hkeep : ∀ d u, Rd w I d u → Rd (w.setCell ⟨b, i * size + j, none⟩ v) I d u := fun d u h => h.kept (fun _ h => h) fun b' hb' o' => by
      refine World.cell?_of_block (a := ⟨b', o', none⟩) (hgr.block b' (hi.immX b' hb').1 fun e => ?_)
      cases e
      exact (hi.own p b hbL).1 hb'
    exact OC.im (All2.set (Rd.v.2 ⟨rfl, hsc⟩) (hall.mono fun d _ u h => hkeep d u h))

end Go.AX
