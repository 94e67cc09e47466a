/- A part of the proof of the statement in the row text. -/
import Derived.Test.YtkpohcfohnmejaaGreatDoorLxLit
import Derived.Laws.OwnMore
import Derived.Laws.MakeOwn
/- New objects, and stores. -/
set_option linter.unusedVariables false
set_option linter.unusedSimpArgs false
namespace Go.LX

variable {P : Program} {σ : St}

/-- An operation that turns objects and leaves a value. -/
theorem OpW_obj [Glob] {o : Oper} {t : Nat} {σ' : St} {s : SV} {N : St → Prop} (hd : o.dst = some t) (ht : Nat.blt t σ.n = true) (hn : σ'.n = σ.n)
    (h : ∀ (K : Ctx) (w : World) (I : Nat → Prop) (g : Gh) (tm : Array Value), Inv K w I g σ tm → ∃ u w' I' g', (execOp (Act.eval ⟨tm, []⟩) o).run P w = .ok (.value u) w' ∧ Inv K w' I' g' σ' tm ∧ ShapeOK s u ∧ ∀ (i : Nat) (c : C), s.cells[i]? = some c → ∃ v, (valCells u)[i]? = some v ∧ CR w' I' g' σ'.objs c v)
    (hN : N (σ'.put t s)) : OpW P o N σ := by
  intro K w I g tm hi
  obtain ⟨u, w', I', g', h1, h2, h3, h4⟩ := h K w I g tm hi
  rw [h1]
  simp only [Oper.upon, Act.put, hd]
  exact ⟨trivial, _, I', g', hN, h2.put (by rw [hn]; exact Nat.le_of_ble_eq_true ht) h3 h4⟩
/-- An operation that turns objects and leaves none. -/
theorem OpW_do [Glob] {o : Oper} {σ' : St} {N : St → Prop} (hd : o.dst = none)
    (h : ∀ (K : Ctx) (w : World) (I : Nat → Prop) (g : Gh) (tm : Array Value), Inv K w I g σ tm → ∃ w' I' g', (execOp (Act.eval ⟨tm, []⟩) o).run P w = .ok .skip w' ∧ Inv K w' I' g' σ' tm)
    (hN : N σ') : OpW P o N σ := by
  intro K w I g tm hi
  obtain ⟨w', I', g', h1, h2⟩ := h K w I g tm hi
  rw [h1]
  simp only [Oper.upon, Act.put, hd]
  exact ⟨trivial, _, I', g', hN, h2⟩

def isNew (ob : Nat → Option Ob) (o : Nat) : Bool := Nat.ble 1000 o && match ob o with | none => true | some _ => false
theorem isNew_ok {ob : Nat → Option Ob} {o : Nat} (h : isNew ob o = true) : ob o = none ∧ 1000 ≤ o := by
  unfold isNew at h
  obtain ⟨h1, h⟩ := Bool.and_eq_true_iff.1 h
  refine ⟨?_, Nat.le_of_ble_eq_true h1⟩
  split at h
  · assumption
  · cases h

def newO' (ob : Nat → Option Ob) : Nat → Nat → Option Nat
  | 0, _ => none
  | f + 1, b => match isNew ob b with
    | true => some b
    | false => newO' ob f (b + 1)
/-- The number of an object that slot t's operation makes. -/
def newO (ob : Nat → Option Ob) (t : Nat) : Option Nat := newO' ob 8 (1000 * (t + 1))
theorem newO_ok {ob : Nat → Option Ob} {t id : Nat} (h : newO ob t = some id) : ob id = none ∧ 1000 ≤ id := by
  have key : ∀ {f b : Nat}, newO' ob f b = some id → ob id = none ∧ 1000 ≤ id := by
    intro f
    induction f with
    | zero => intro b h; cases h
    | succ f ih =>
      intro b h
      unfold newO' at h
      split at h
      · rename_i hb; cases h; exact isNew_ok hb
      · exact ih h
  exact key h

theorem free_new [Glob] {K : Ctx} {w : World} {I : Nat → Prop} {g : Gh} {tm : Array Value} (hi : Inv K w I g σ tm) {b : Nat} (hb : w.heap.size ≤ b) : Free K I g b :=
  ⟨fun h => by have := (hi.immX b h).1; omega, fun o h => by have := hi.ob_lt h; omega, fun h => by have := hi.fr.size; omega⟩
theorem Below.allocW (w : World) (o : Obj) : Go.RowKit.Below w.heap.size w (w.alloc o) := (Go.RowKit.Below.refl _ _).alloc (Nat.le_refl _) o
theorem heap_new_cell (w : World) (us : Array Value) (e : TypeId) (j : Nat) : (w.alloc (.cells us e)).cell? ⟨w.heap.size, j, none⟩ = us[j]? := by
  unfold World.cell?; rw [heap_alloc_new]; simp
theorem heap_new_froz (w : World) (us : Array Value) (e : TypeId) (j : Nat) : (w.alloc (.cells us e)).frozen? ⟨w.heap.size, j, none⟩ = false := by
  unfold World.frozen?; rw [heap_alloc_new]; simp

/-- A new block of cells. -/
theorem Inv.allocCells [Glob] {K : Ctx} {w : World} {I : Nat → Prop} {g : Gh} {tm : Array Value} (hi : Inv K w I g σ tm) {o : Nat} {cs : List C} {us : Array Value} {e : TypeId} (ho : σ.objs o = none ∧ 1000 ≤ o)
    (hc : ∀ (j : Nat) (c : C), cs[j]? = some c → ∃ u, us[j]? = some u ∧ u.oneCell' = true ∧ CR w I g σ.objs c u) :
    Inv K (w.alloc (.cells us e)) I (g.setO o (w.heap.size, 0) (g.base o) [w.heap.size]) (σ.setO o (.cells cs)) tm := by
  have hg := hi.grow (Below.allocW w (.cells us e))
  refine hg.newCells ho.1 ho.2 (by simp) (free_new hi (Nat.le_refl _)) (by have := hi.fr.size; omega) fun j c hj => ?_
  obtain ⟨u, h1, h2, h3⟩ := hc j c hj
  refine ⟨u, by rw [heap_new_cell]; exact h1, heap_new_froz _ _ _ _, h2, ?_⟩
  have hT : ∀ b, b < w.heap.size → (w.alloc (.cells us e)).heap[b]? = w.heap[b]? := fun b hb => (Below.allocW w (.cells us e)).block b hb
  refine h3.keep (fun b hb => ⟨hb, fun f => cell_block (hT b (hi.immX b hb).1) f⟩) fun x r v hs => ?_
  have hob := hi.obj x
  unfold ObR at hob
  cases hq : σ.objs x with
  | none => rw [hq] at hs; exact hs.elim
  | some q =>
    rw [hq] at hs hob
    simp only [seeO] at hs ⊢
    cases q with
    | dead => exact see_dead
    | cells cs => exact see_cells rfl hs
    | rows e t dp xs =>
      refine see_same (fun b hb => ⟨hb, fun f => cell_block (hT b (hi.immX b hb).1) f⟩) (fun b hb => ⟨id, fun f => cell_block (hT b ?_) f⟩) hs
      rcases hb with hb | hb
      · exact hi.ob_lt hb
      · obtain ⟨vs, L', ho, hr, e⟩ := hob
        exact hi.ob_lt (o := x) (by rw [e, hb]; simp)
    | fz t dp xs =>
      obtain ⟨h0, A, cap, hb0, hc1, hc2, hc3⟩ := hob
      cases r with
      | ns i j =>
        cases dp with
        | false => trivial
        | true =>
          obtain ⟨h0', b, f1, cap, h1, h2, h3⟩ := hs
          refine ⟨h0', b, f1, cap, h1, h2, ?_⟩
          rw [h1] at hb0
          simp only [List.cons.injEq, Value.slice.injEq, and_true] at hb0
          obtain ⟨b', o', vs, hA, hca, _⟩ := hc3 i xs[i] (List.getElem?_eq_getElem h2)
          rw [← hb0.1] at hA
          cases hA
          rw [cell_block (hT _ (hi.immX _ hca.1).1)]; exact h3
      | vw t x => cases dp with
        | false => trivial
        | true => exact RT.kept (fun b hb => hb) (fun b hb f => cell_block (hT b (hi.immX b hb).1) f) hs
      | vp t x j => cases dp with
        | false => trivial
        | true => exact PD.kept hs (fun b hb => hb) (fun b hb f => cell_block (hT b (hi.immX b hb).1) f)
      | _ => exact hs

/-- A struct or a number put into a box of its own. -/
def evBox (ob : Nat → Option Ob) (t : Nat) (s : SV) : Option (Nat × List C) := match newO ob t, s.flat with
  | some id, some cs => some (id, cs)
  | _, _ => none
theorem op_box [Glob] {o : Oper} {t id : Nat} {e : TypeId} {x : Operand} {cs : List C} {N : St → Prop} (ho : o.op = .box e x) (hd : o.dst = some t) (ht : Nat.blt t σ.n = true)
    (h : evBox σ.objs t (σ.ev x) = some (id, cs)) (hN : N ((σ.setO id (.cells cs)).put t (.one (.rf id (.pb 0))))) : OpW P o N σ := by
  refine OpW_obj (σ' := σ.setO id (.cells cs)) hd ht rfl (fun K w I g tm hi => ?_) hN
  unfold evBox at h
  split at h
  · rename_i id' cs' hn hf
    cases h
    obtain ⟨h1, h2⟩ := hi.ev x rfl
    obtain ⟨q1, q2, q3⟩ := shape_cells hf h1
    have hnew := hi.allocCells (us := (Act.eval ⟨tm, []⟩ x).cells) (e := e) (newO_ok hn) (cs := cs) fun j c hj => by
      obtain ⟨u, hu, hr⟩ := h2 j c (by rw [flat_cells hf]; exact hj)
      rw [q1] at hu
      exact ⟨u, by simpa using hu, q3 u (List.mem_of_getElem? hu), hr⟩
    refine ⟨.pointer (some ⟨w.heap.size, 0, none⟩), _, I, _, ?_, hnew, shape_one rfl ?_⟩
    · simp [execOp, ho, Instr.box, newVar, newRow]
    · show seeO _ _ _ _ _ ((σ.setO _ _).objs _) _ _
      rw [St.setO_same, Gh.setO_eq.1]
      rfl
  · cases h
def evAlloc (P : Program) (ob : Nat → Option Ob) (t : Nat) (e : TypeId) : Option (Nat × List C) := match newO ob t, zeroB P e with
  | some id, some zs => bif plainZ zs then some (id, zs.map C.ofZ) else none
  | _, _ => none
theorem op_alloc [Glob] {o : Oper} {t id : Nat} {e : TypeId} {cs : List C} {N : St → Prop} (ho : o.op = .alloc e) (hd : o.dst = some t) (ht : Nat.blt t σ.n = true)
    (h : evAlloc P σ.objs t e = some (id, cs)) (hN : N ((σ.setO id (.cells cs)).put t (.one (.rf id (.pb 0))))) : OpW P o N σ := by
  refine OpW_obj (σ' := σ.setO id (.cells cs)) hd ht rfl (fun K w I g tm hi => ?_) hN
  unfold evAlloc at h
  split at h
  · rename_i id' zs hn hz
    cases hp : plainZ zs with
    | false => rw [hp] at h; cases h
    | true =>
      rw [hp] at h
      simp only [cond_true, Option.some.injEq, Prod.mk.injEq] at h
      obtain ⟨rfl, rfl⟩ := h
      unfold zeroB at hz
      cases hinf : P.info? e with
      | none => simp [hinf] at hz
      | some inf =>
        cases hzz : inf.zero with
        | none => simp [hinf, hzz] at hz
        | some z =>
          simp [hinf, hzz] at hz
          have hnew := hi.allocCells (us := z.cells) (e := e) (newO_ok hn) (cs := zs.map C.ofZ) fun j c hj => by
            simp only [List.getElem?_map, Option.map_eq_some_iff] at hj
            obtain ⟨v, hv, rfl⟩ := hj
            exact ⟨v, by rw [← hz] at hv; simpa using hv, List.all_eq_true.1 hp v (List.mem_of_getElem? hv), CR.ofZ⟩
          refine ⟨.pointer (some ⟨w.heap.size, 0, none⟩), _, I, _, ?_, hnew, shape_one rfl ?_⟩
          · simp [execOp, ho, Instr.alloc, zeroValue, typeInfo, hinf, hzz, newVar, newRow]
          · show seeO _ _ _ _ _ ((σ.setO _ _).objs _) _ _
            rw [St.setO_same, Gh.setO_eq.1]
            rfl

  · cases h

/-! ### Stores into boxes -/
def evStB (P : Program) (ob : Nat → Option Ob) (ty : TypeId) (sx s : SV) : Option (Nat × List C) :=
  match sx with
  | .one (.rf o (.pb c)) => match ob o with
    | some (.cells cs) => s.flat.bind fun cs' => (sizeB P ty).bind fun n => bif Nat.blt 0 n && (Nat.beq n cs'.length && Nat.ble (c + n) cs.length) then some (o, cs.take c ++ cs' ++ cs.drop (c + n)) else none
    | _ => none
  | _ => none
theorem op_store_b [Glob] {o : Oper} {ty : TypeId} {x y : Operand} {id : Nat} {cs2 : List C} {N : St → Prop} (ho : o.op = .store ty x y) (hd : o.dst = none)
    (h : evStB P σ.objs ty (σ.ev x) (σ.ev y) = some (id, cs2)) (hN : N (σ.setO id (.cells cs2))) : OpW P o N σ := by
  refine OpW_do (σ' := σ.setO id (.cells cs2)) hd (fun K w I g tm hi => ?_) hN
  unfold evStB at h
  split at h
  · rename_i bx c hx
    split at h
    · rename_i cs hq
      simp only [Option.bind_eq_some_iff] at h
      obtain ⟨cs', hf, n, hsz, h⟩ := h
      cases hb : (Nat.blt 0 n && (Nat.beq n cs'.length && Nat.ble (c + n) cs.length)) with
      | false => rw [hb] at h; cases h
      | true =>
        rw [hb] at h
        simp only [cond_true, Option.some.injEq, Prod.mk.injEq] at h
        obtain ⟨rfl, rfl⟩ := h
        obtain ⟨b0, hb⟩ := Bool.and_eq_true_iff.1 hb
        have b0 := Nat.le_of_ble_eq_true b0
        obtain ⟨b1, b2⟩ := Bool.and_eq_true_iff.1 hb
        obtain rfl := Nat.eq_of_beq_eq_true b1
        have hl := Nat.le_of_ble_eq_true b2
        have hp := (hi.ev_one hx).1
        have ea : Act.eval ⟨tm, []⟩ x = .pointer (some ⟨(g.addr bx).1, (g.addr bx).2 + c, none⟩) := by
          have hp' : seeO w I (g.addr bx) (g.base bx) (g.L bx) (σ.objs bx) (.pb c) (Act.eval ⟨tm, []⟩ x) := hp
          rw [hq] at hp'; exact hp'
        obtain ⟨h1, h2⟩ := hi.ev y rfl
        obtain ⟨q1, q2, q3⟩ := shape_cells hf h1
        obtain ⟨hL, hbx⟩ := hi.cells hq
        have hnew : ∀ (i : Nat) (c : C), cs'[i]? = some c → ∃ u, (Act.eval ⟨tm, []⟩ y).cells.toList[i]? = some u ∧ u.oneCell' = true ∧ CR w I g σ.objs c u := by
          intro i c hc
          obtain ⟨u, hu, hr⟩ := h2 i c (by rw [flat_cells hf]; exact hc)
          rw [q1] at hu
          exact ⟨u, hu, q3 u (List.mem_of_getElem? hu), hr⟩
        have hroom : ∀ j, j < (Act.eval ⟨tm, []⟩ y).cells.toList.length → (w.cell? ⟨(g.addr bx).1, (g.addr bx).2 + c + j, none⟩).isSome = true ∧ w.frozen? ⟨(g.addr bx).1, (g.addr bx).2 + c + j, none⟩ = false := by
          intro j hj
          have hlt : c + j < cs.length := by omega
          obtain ⟨u, e1, e2, _⟩ := hbx (c + j) cs[c + j] (List.getElem?_eq_getElem hlt)
          rw [Nat.add_assoc]
          exact ⟨by rw [e1]; rfl, e2⟩
        have hrun : (execOp (Act.eval ⟨tm, []⟩) o).run P w = .ok .skip (putC w (g.addr bx).1 ((g.addr bx).2 + c) (Act.eval ⟨tm, []⟩ y).cells.toList) := by
          have := run_storeVar_box (P := P) (ty := ty) (b := (g.addr bx).1) (o := (g.addr bx).2 + c) (w := w) (v := Act.eval ⟨tm, []⟩ y) (by rw [hsz, ← q2, Array.length_toList]) hroom q3
          simp [execOp, ho, ea, Instr.storeAt, Instr.sureAddr, this]
        obtain ⟨f1, f2, f3, f4, f5, f6, f7⟩ := putC_facts (b := (g.addr bx).1) (vs := (Act.eval ⟨tm, []⟩ y).cells.toList) (o := (g.addr bx).2 + c) (w := w) (fun j hj => (hroom j hj).1)
        generalize putC w (g.addr bx).1 ((g.addr bx).2 + c) (Act.eval ⟨tm, []⟩ y).cells.toList = w' at f1 f2 f3 f4 f5 f6 f7 hrun
        generalize hvs : (Act.eval ⟨tm, []⟩ y).cells.toList = vs at *
        refine ⟨w', I, _, hrun, hi.one (T := fun b => b = (g.addr bx).1) (L := g.L bx) (ad := g.addr bx) (base := g.base bx) ⟨f5, f6, f7, by omega, fun b _ hb => f3 b hb⟩ (fun b hb => .inl (by rw [hL]; simp [hb])) ?_ (fun _ h => h) (fun b hb => .inl hb) (hi.nod bx)
          (fun b hb => ⟨by rw [f4]; exact hi.ob_lt hb, .inl hb, (hi.own bx b hb).2.2⟩) (fun a ha => by obtain ⟨e1, e2, e3, _⟩ := (hi.ext bx a ha).2 _ hq; exact ⟨e1, e2, e3, _, rfl⟩) (fun v hv => (hi.exB bx v hv).2 _ hq) ?_ fun hk hI => ?_⟩
        · have h0 : 0 < cs.length := by omega
          have notOld : ∀ b, b < K.w0.heap.size → (∀ o, ¬ K.R b o) → b ≠ (g.addr bx).1 := by
            rintro b hb' hR rfl
            obtain ⟨u, _, _, _, e4, _⟩ := hbx 0 cs[0] (List.getElem?_eq_getElem h0)
            exact hR _ (e4 hb')
          exact {
            os := f5.trans hi.fr.os
            tape := f6.trans hi.fr.tape
            output := f7.trans hi.fr.output
            size := by rw [f4]; exact hi.fr.size
            old := fun b hb' hX hR => (f3 b (notOld b hb' hR)).trans (hi.fr.old b hb' hX hR)
            part := fun b hb' hX o' hR => by
              rw [f1]
              split
              · rename_i hh
                obtain ⟨rfl, l1, l2⟩ := hh
                have hj : o' - (g.addr bx).2 < cs.length := by omega
                obtain ⟨u, _, _, _, e4, _⟩ := hbx (o' - (g.addr bx).2) cs[o' - (g.addr bx).2] (List.getElem?_eq_getElem hj)
                refine absurd (e4 hb') ?_
                rw [show (g.addr bx).2 + (o' - (g.addr bx).2) = o' by omega]
                exact hR
              · exact hi.fr.part b hb' hX o' hR
            froz := fun b hb' hX o' => (f2 b o').trans (hi.fr.froz b hb' hX o') }
        · intro r u hs
          rw [hq] at hs
          rw [St.setO_same, Gh.setO_eq.1, Gh.setO_eq.2.1]
          refine see_cells ?_ hs
          simp only [List.length_append, List.length_take, List.length_drop]
          omega
        · unfold ObR
          rw [St.setO_same]
          show (g.setO bx (g.addr bx) (g.base bx) (g.L bx)).L bx = [((g.setO bx (g.addr bx) (g.base bx) (g.L bx)).addr bx).1] ∧ BoxR K w' I (g.setO bx (g.addr bx) (g.base bx) (g.L bx)) _ bx _
          rw [Gh.setO_eq.2.2]
          unfold BoxR
          rw [Gh.setO_eq.1]
          refine ⟨hL, fun j c0 hj => ?_⟩
          rw [splice_get hl] at hj
          by_cases hjr : c ≤ j ∧ j < c + cs'.length
          · rw [if_pos hjr] at hj
            obtain ⟨u, hu, h1', hr⟩ := hnew (j - c) c0 hj
            have hjc : j < cs.length := by omega
            obtain ⟨_, _, e2, _, e4, _⟩ := hbx j cs[j] (List.getElem?_eq_getElem hjc)
            refine ⟨u, ?_, (f2 _ _).trans e2, h1', e4, hr.keep hI hk⟩
            rw [f1, if_pos ⟨rfl, by omega, by omega⟩, show (g.addr bx).2 + j - ((g.addr bx).2 + c) = j - c by omega]
            exact hu
          · rw [if_neg hjr] at hj
            obtain ⟨u, e1, e2, e3, e4, e5⟩ := hbx j c0 hj
            refine ⟨u, ?_, (f2 _ _).trans e2, e3, e4, e5.keep hI hk⟩
            rw [f1, if_neg]
            · exact e1
            · rintro ⟨_, l1, l2⟩
              exact hjr ⟨by omega, by omega⟩
    · cases h
  · cases h
end Go.LX

/- append, literals of slices, make: new owned slices. -/
set_option linter.unusedVariables false
set_option linter.unusedSimpArgs false
namespace Go.LX

variable {P : Program} {σ : St}

/-! ### What a source of rows gives -/
/-- The cells of a slice that is read. -/
theorem rt_src {w : World} {S : Nat → Prop} {t : Ty} {ys : List t.T} {u : Value} (h : RT w S (.sl t) ys [u]) :
    ∃ a cap news, u = .slice a ys.length cap ∧ Rows (fun x us L => L = [] ∧ RT w S t x us) ys news [] ∧ ((a = none ∧ ys.length = 0) ∨ ∃ a', a = some a' ∧ ∀ j v, news[j]? = some v → w.cell? (a'.add j) = some v) := by
  obtain ⟨A, cap, hu, h1, h2, h3⟩ := h
  simp only [List.cons.injEq, and_true] at hu
  have key : ∀ (ys : List t.T) (i : Nat), (∀ (k : Nat) (x : t.T), ys[k]? = some x → ∃ b o vs, A = some ⟨b, o, none⟩ ∧ CellsAt w S b (o + (i + k) * t.w) vs ∧ RT w S t x vs) →
      ∃ news : List Value, Rows (fun x us L => L = [] ∧ RT w S t x us) ys news [] ∧ ∀ b o, A = some ⟨b, o, none⟩ → ∀ j v, news[j]? = some v → w.cell? ⟨b, o + i * t.w + j, none⟩ = some v := by
    intro ys
    induction ys with
    | nil => intro i _; exact ⟨[], ⟨rfl, rfl⟩, fun b o _ j v hv => by simp at hv⟩
    | cons y ys ih =>
      intro i hr
      obtain ⟨news, hn1, hn2⟩ := ih (i + 1) fun k x hk => by
        obtain ⟨b, o, vs, q1, q2, q3⟩ := hr (k + 1) x (by simpa using hk)
        exact ⟨b, o, vs, q1, by rw [show i + 1 + k = i + (k + 1) by omega]; exact q2, q3⟩
      obtain ⟨b, o, vs, hA, hca, hrt⟩ := hr 0 y rfl
      have hvl := hrt.len
      refine ⟨vs ++ news, ⟨vs, news, [], [], rfl, rfl, ⟨rfl, hrt⟩, hn1⟩, fun b' o' hA' j v hv => ?_⟩
      rw [hA] at hA'
      cases hA'
      rw [List.getElem?_append] at hv
      split at hv
      · have := hca.2 j v hv
        rwa [Nat.add_zero] at this
      · have := hn2 b o hA _ v hv
        rw [show o + i * t.w + j = o + (i + 1) * t.w + (j - vs.length) by rw [Nat.add_mul]; omega]
        exact this
  obtain ⟨news, hn1, hn2⟩ := key ys 0 fun k x hk => by rw [Nat.zero_add]; exact h3 k x hk
  refine ⟨A, cap, news, hu, hn1, ?_⟩
  cases ys with
  | nil =>
    obtain ⟨rfl, _⟩ := hn1
    cases A with
    | none => exact .inl ⟨rfl, rfl⟩
    | some a => exact .inr ⟨a, rfl, fun j v hv => by simp at hv⟩
  | cons y ys =>
    obtain ⟨b, o, vs, hA, _⟩ := h3 0 y rfl
    exact .inr ⟨_, hA, fun j v hv => by have := hn2 b o hA j v hv; rw [Nat.zero_mul, Nat.add_zero] at this; rw [addr_add]; exact this⟩

/-- append where there is room, at any offset. -/
theorem run_append_roomR (w : World) (t ty e : TypeId) (i : TypeInfo) (ht : P.underlying t = some (.slice e)) (hi : P.info? e = some i)
    (g f sLen sCap : Nat) (cur : Array Value) (hg : w.heap[g]? = some (.cells cur e (0, 0)))
    (a : Addr) (m c : Nat) (news : List Value) (hl : news.length = m * i.size) (hnews : ∀ j u, news[j]? = some u → w.cell? (a.add j) = some u) (h1 : ∀ u ∈ news, u.oneCell' = true)
    (hroom : sLen + m ≤ sCap) (hfit : f + sLen * i.size + news.length ≤ cur.size) :
    (Builtin.append_ #[t, t] ty #[.slice (some ⟨g, f, none⟩) sLen sCap, .slice (some a) m c]).run P w =
      .ok (.slice (some ⟨g, f, none⟩) (sLen + m) sCap) (w.setRow g (cur.toList.take (f + sLen * i.size) ++ news ++ cur.toList.drop (f + sLen * i.size + news.length)).toArray) := by
  have hf := run_firstCells_some (P := P) w i.size m a m c news hl hnews
  have hst := run_storeCells_at P g (f + sLen * i.size) e news 0 cur w hg (by simpa using hfit) h1
  simp only [Nat.add_zero] at hst
  simp [Builtin.append_, run_underlying ht, sizeOf, typeInfo, hi, Builtin.lenOf, hroom, hf, addr_add, hst]
theorem run_append_ownR (w : World) (t ty e : TypeId) (i : TypeInfo) (z : Value) (size bytes : Nat) (ht : P.underlying t = some (.slice e)) (hi : P.info? e = some i) (hz : i.zero = some z)
    (hsize : i.size = size) (hby : i.bytes = bytes) (hzs : z.cells.size = size) (hsz : 0 < size)
    (v : Value) (n : Nat) (xs : List Value) (hown : ownsR w e size v n xs)
    (a : Addr) (m c : Nat) (news : List Value) (hl : news.length = m * size) (hnews : ∀ j u, news[j]? = some u → w.cell? (a.add j) = some u) (h1 : ∀ u ∈ news, u.oneCell' = true)
    (h63 : n + m ≤ maxLen) (hbytes : (n + m) * bytes ≤ 140737488355328) :
    ∃ v' w', (Builtin.append_ #[t, t] ty #[v, .slice (some a) m c]).run P w = .ok v' w' ∧ ownsR w' e size v' (n + m) (xs ++ news) ∧ w.grownBy w' v.ownBlock ∧ (v'.ownBlock = v.ownBlock ∨ v'.ownBlock = some w.heap.size) := by
  have hsmall : n + m ≤ 9223372036854775807 := by simp only [maxLen] at h63; omega
  have hlen : (xs ++ news).length = (n + m) * size := by rw [List.length_append, hown.1, hl, Nat.add_mul]
  rcases hown.2 with ⟨rfl, rfl⟩ | ⟨g, f, cap, cur, rfl, hg, hnc, hcm, hcs, htake⟩
  · have hx : xs = [] := List.eq_nil_of_length_eq_zero (by simpa using hown.1)
    subst hx
    obtain ⟨v', w', h1, h2, h3, _, h5⟩ := run_append_own_at (P := P) w 0 t ty e i z size bytes ht hi hz hsize hby hzs hsz (.slice none 0 0) 0 [] (World.ownsRow_nil w 0 e size) a m c news hl hnews h1 h63 hbytes (Nat.zero_le _)
    exact ⟨v', w', h1, .of h2, h3, h5⟩
  · subst hsize
    subst hby
    by_cases hroom : n + m ≤ cap
    · have hmul : (n + m) * i.size ≤ cap * i.size := Nat.mul_le_mul_right _ hroom
      rw [Nat.add_mul] at hmul
      have hfit : f + n * i.size + news.length ≤ cur.size := by rw [hl]; omega
      have hr := run_append_roomR (P := P) w t ty e i ht hi g f n cap cur hg a m c news hl hnews h1 hroom hfit
      have hul : (cur.toList.take (f + n * i.size) ++ news ++ cur.toList.drop (f + n * i.size + news.length)).length = cur.size := by
        simp only [List.length_append, List.length_take, List.length_drop, Array.length_toList]; omega
      refine ⟨_, _, hr, ⟨hlen, .inr ⟨g, f, cap, _, rfl, setRow_heap w g cur _ e _ hg, hroom, hcm, ?_, ?_⟩⟩, ⟨rfl, rfl, rfl, by simp, fun k _ hk => setRow_other w g k _ (fun e => hk (by simp [Value.ownBlock, e]))⟩, Or.inl rfl⟩
      · rw [List.size_toArray, hul]; exact hcs
      · rw [← hlen]
        show ((cur.toList.take (f + n * i.size) ++ news ++ cur.toList.drop (f + n * i.size + news.length)).drop f).take (xs ++ news).length = xs ++ news
        have e1 : cur.toList.take (f + n * i.size) = cur.toList.take f ++ xs := by
          rw [List.take_add, htake]
        have hfl : (cur.toList.take f).length = f := by rw [List.length_take, Array.length_toList]; omega
        have e2 : (cur.toList.take (f + n * i.size) ++ news ++ cur.toList.drop (f + n * i.size + news.length)).drop f = (xs ++ news) ++ cur.toList.drop (f + n * i.size + news.length) := by
          rw [e1, List.append_assoc, List.append_assoc]
          conv => lhs; arg 1; rw [← hfl]
          rw [List.drop_left, List.append_assoc]
        rw [e2, List.take_left]
    · have holds : ∀ j u, xs[j]? = some u → w.cell? ((⟨g, f, none⟩ : Addr).add j) = some u := fun j u hu => by rw [addr_add]; exact hown.cells j u hu
      have hr := run_append_grow (P := P) w t ty e i z ht hi hz ⟨g, f, none⟩ n cap xs hown.1 holds a m c news hl hnews (by omega) (by omega) (growslice_fits (by omega) hbytes)
      have hge := grownCap_ge w (n + m) cap e
      have hcm' : grownCap w (n + m) cap e ≤ maxLen := grownCap_le_maxLen w (n + m) cap e h63
      refine ⟨_, _, hr, ⟨hlen, .inr ⟨w.heap.size, 0, _, _, rfl, heap_alloc_new w.drew _, hge, hcm', ?_, ?_⟩⟩, ⟨rfl, rfl, rfl, by simp, fun k hk _ => heap_alloc_old w.drew _ k hk⟩, Or.inr rfl⟩
      · simp only [Array.size_append, List.size_toArray, size_zeroCells, hzs, hown.1, hl, ← Nat.add_mul]
        rw [Nat.zero_add]
        refine Nat.mul_le_mul_right _ ?_
        omega
      · rw [List.drop_zero]
        simp only [Array.toList_append]
        rw [← hlen]
        have : (xs.toArray ++ news.toArray).toList = xs ++ news := by simp
        exact List.take_left

/-- The run of append onto an owned slice. -/
theorem run_appendB {ty ty' e : TypeId} {size bytes n m : Nat} (hty : P.underlying ty = some (.slice e)) (hsz : sizeB P e = some size) (hb : (P.info? e).map (·.bytes) = some bytes) {zs : List Value} (hz : zeroB P e = some zs) (hzl : zs.length = size) (hpos : 0 < size)
    {w : World} {v u : Value} {xs news : List Value} (hown : ownsR w e size v n xs) (hnl : news.length = m * size) (h1 : ∀ u ∈ news, u.oneCell' = true)
    (hu : ∃ a cap, u = .slice a m cap ∧ ((a = none ∧ m = 0) ∨ ∃ a', a = some a' ∧ ∀ j v, news[j]? = some v → w.cell? (a'.add j) = some v))
    (hbd : (n + m) * bytes ≤ 140737488355328) (hml : n + m ≤ maxLen) :
    ∃ v' w', (Builtin.append_ #[ty, ty] ty' #[v, u]).run P w = .ok v' w' ∧ ownsR w' e size v' (n + m) (xs ++ news) ∧ w.grownBy w' v.ownBlock ∧ (v'.ownBlock = v.ownBlock ∨ v'.ownBlock = some w.heap.size) := by
  unfold zeroB at hz
  cases hinf : P.info? e with
  | none => simp [hinf] at hz
  | some inf =>
    cases hzz : inf.zero with
    | none => simp [hinf, hzz] at hz
    | some z =>
      simp [hinf, hzz] at hz
      have hsz' : inf.size = size := by simpa [sizeB, hinf] using hsz
      have hb' : inf.bytes = bytes := by simpa [hinf] using hb
      obtain ⟨a, cap, rfl, hcase⟩ := hu
      rcases hcase with ⟨rfl, rfl⟩ | ⟨a', rfl, hcells⟩
      · have hn0 : news = [] := List.eq_nil_of_length_eq_zero (by simpa using hnl)
        subst hn0
        refine ⟨v, w, ?_, by simpa using hown, ⟨rfl, rfl, rfl, Nat.le_refl _, fun _ _ _ => rfl⟩, .inl rfl⟩
        rcases hown.2 with ⟨rfl, hn⟩ | ⟨g, f, cap, cur, rfl, _, hnc, _⟩
        · simp [Builtin.append_, run_underlying hty, sizeOf, typeInfo, hinf, Builtin.lenOf, Builtin.firstCells]
        · simp [Builtin.append_, run_underlying hty, sizeOf, typeInfo, hinf, Builtin.lenOf, Builtin.firstCells, hnc, storeCells]
      · obtain ⟨v', w', hr, ho, hg, hblk⟩ := run_append_ownR (P := P) w ty ty' e inf z size bytes hty hinf hzz hsz' hb' (by rw [← hzl, ← hz]; simp) hpos v n xs hown a' m cap news hnl hcells h1 hml hbd
        exact ⟨v', w', hr, ho, hg, hblk⟩

theorem rows_one {α : Type} {R : α → List Value → List Nat → Prop} (hR : ∀ x u L, R x u L → ∀ v ∈ u, v.oneCell' = true) : ∀ {xs : List α} {us : List Value} {L : List Nat}, Rows R xs us L → ∀ v ∈ us, v.oneCell' = true
  | [], _, _, h, v, hv => by rw [h.1] at hv; simp at hv
  | x :: xs, _, _, h, v, hv => by
    obtain ⟨u1, u2, L1, L2, rfl, rfl, h1, h2⟩ := h
    rcases List.mem_append.1 hv with hv | hv
    · exact hR _ _ _ h1 v hv
    · exact rows_one hR h2 v hv

/-- The type's facts that append and make lean on. -/
structure TyOK (P : Program) (ty e : TypeId) (size bytes : Nat) : Prop where
  ty : P.underlying ty = some (.slice e)
  sz : sizeB P e = some size
  by_ : (P.info? e).map (·.bytes) = some bytes
  z : ∃ zs, zeroB P e = some zs ∧ zs.length = size
  pos : 0 < size
def tyB (P : Program) (ty e : TypeId) (size bytes : Nat) : Bool :=
  (match P.underlying ty with | some (.slice e') => Nat.beq e' e | _ => false) && ((match P.info? e with
    | some inf => Nat.beq inf.size size && Nat.beq inf.bytes bytes && (match inf.zero with | some z => Nat.beq z.cells.size size | none => false)
    | none => false) && Nat.blt 0 size)
theorem tyB_ok {ty e : TypeId} {size bytes : Nat} (h : tyB P ty e size bytes = true) : TyOK P ty e size bytes := by
  obtain ⟨h1, h2⟩ := Bool.and_eq_true_iff.1 h
  obtain ⟨h2, h3⟩ := Bool.and_eq_true_iff.1 h2
  cases hi : P.info? e with
  | none => rw [hi] at h2; cases h2
  | some inf =>
    rw [hi] at h2
    obtain ⟨h2, h4⟩ := Bool.and_eq_true_iff.1 h2
    obtain ⟨h2, h5⟩ := Bool.and_eq_true_iff.1 h2
    cases hz : inf.zero with
    | none => rw [hz] at h4; cases h4
    | some z =>
      rw [hz] at h4
      refine ⟨?_, by simp [sizeB, hi, Nat.eq_of_beq_eq_true h2], by simp [hi, Nat.eq_of_beq_eq_true h5], ⟨z.cells.toList, by simp [zeroB, hi, hz], by simpa using Nat.eq_of_beq_eq_true h4⟩, Nat.le_of_ble_eq_true h3⟩
      split at h1
      · rename_i e' he; rw [← Nat.eq_of_beq_eq_true h1]; exact he
      · cases h1

/-- append onto an owned slice that nothing else tells of; the new slice gets the number id. -/
theorem append_free [Glob] {K : Ctx} {w : World} {I : Nat → Prop} {g : Gh} {tm : Array Value} (hi : Inv K w I g σ tm) {id : Nat} {ty ty' e : TypeId} {t : Ty} {bytes : Nat} {dp : Bool} {xs ys : List t.T} {v u : Value} {L Ly : List Nat} {news : List Value} (hnew : σ.objs id = none ∧ 1000 ≤ id)
    (hT : TyOK P ty e t.w bytes) (hoa : OA w I dp e t xs v L) (hnd : L.Nodup) (hf : ∀ b ∈ L, Free K I g b) (hrows : Rows (RR w I dp t) ys news Ly) (hnd2 : Ly.Nodup) (hf2 : ∀ b ∈ Ly, Free K I g b ∧ b ∉ L)
    (hu : ∃ a cap, u = .slice a ys.length cap ∧ ((a = none ∧ ys.length = 0) ∨ ∃ a', a = some a' ∧ ∀ j v, news[j]? = some v → w.cell? (a'.add j) = some v))
    (hbd : (xs.length + ys.length) * bytes ≤ 140737488355328) (hml : xs.length + ys.length ≤ maxLen) :
    ∃ v' w' g', (Builtin.append_ #[ty, ty] ty' #[v, u]).run P w = .ok v' w' ∧ Inv K w' I g' (σ.setO id (.rows e t dp (xs ++ ys))) tm ∧ g'.base id = v' := by
  obtain ⟨vs, L', ho, hr, rfl⟩ := hoa
  obtain ⟨zs, hz, hzl⟩ := hT.z
  have hLw : ∀ b ∈ Ly, b < w.heap.size := rows_lt (R := RR w I dp t) (fun x u L h b hb => by
    cases dp with
    | true => exact OT.lt h b hb
    | false => rw [h.1] at hb; simp at hb) hrows
  have hL'w : ∀ b ∈ L', b < w.heap.size := rows_lt (R := RR w I dp t) (fun x u L h b hb => by
    cases dp with
    | true => exact OT.lt h b hb
    | false => rw [h.1] at hb; simp at hb) hr
  obtain ⟨v', w', hrun, ho', hg, hblk⟩ := run_appendB (P := P) (ty' := ty') hT.ty hT.sz hT.by_ hz hzl hT.pos ho (hrows.len fun _ _ _ h => h.len) (rows_one (fun _ _ _ h => h.one) hrows) hu hbd hml
  have hgr := Grow.of_grownBy hg
  have hi' := hi.scrib hgr fun b hb => hf b (by simp [hb])
  have hnotown : ∀ b ∈ L' ++ Ly, v.ownBlock ≠ some b := by
    intro b hb he
    rcases List.mem_append.1 hb with hb | hb
    · rw [he] at hnd; simp at hnd; exact hnd.1 hb
    · exact (hf2 b hb).2 (by simp [he])
  have hsame : ∀ b ∈ L' ++ Ly, w'.heap[b]? = w.heap[b]? := by
    intro b hb
    refine hgr.block b ?_ (hnotown b hb)
    rcases List.mem_append.1 hb with hb | hb
    · exact hL'w b hb
    · exact hLw b hb
  have hI : ∀ b, I b → ∀ o, w'.cell? ⟨b, o, none⟩ = w.cell? ⟨b, o, none⟩ := fun b hb o => cell_block (hgr.block b (hi.immX b hb).1 fun he => (hf b (by simp [he])).i hb) o
  have hrows' : Rows (RR w' I dp t) (xs ++ ys) (vs ++ news) (L' ++ Ly) := by
    refine Rows.append ?_ ?_
    · exact hr.mono fun x u L1 _ hb h => RR.kept (fun _ h => h) hI (fun b hb' => hsame b (by simp [hb b hb'])) h
    · exact hrows.mono fun x u L1 _ hb h => RR.kept (fun _ h => h) hI (fun b hb' => hsame b (by simp [hb b hb'])) h
  have hfresh : ∀ b, v'.ownBlock = some b → Free K I g b ∧ b ∉ L' ++ Ly := by
    intro b hb
    rcases hblk with h | h
    · rw [h] at hb
      exact ⟨hf b (by simp [hb]), fun hh => hnotown b hh hb⟩
    · rw [h] at hb
      cases hb
      refine ⟨free_new hi (Nat.le_refl _), fun hh => ?_⟩
      rcases List.mem_append.1 hh with hh | hh
      · have := hL'w _ hh; omega
      · have := hLw _ hh; omega
  have hoa' : OA w' I dp e t (xs ++ ys) v' (v'.ownBlock.toList ++ (L' ++ Ly)) := ⟨vs ++ news, L' ++ Ly, by rw [List.length_append]; exact ho', hrows', rfl⟩
  refine ⟨v', w', _, hrun, hi'.newRows hnew.1 (fun v hv => absurd hv ((hi'.noE' hnew.2).2 v)) (hi'.noE' hnew.2).1 ?_ ?_ hoa', Gh.setO_eq.2.1⟩
  · refine List.nodup_append.2 ⟨by cases v'.ownBlock <;> simp, List.nodup_append.2 ⟨(List.nodup_append.1 hnd).2.1, hnd2, ?_⟩, ?_⟩
    · rintro a ha b hb rfl
      exact (hf2 a hb).2 (by simp [ha])
    · rintro a ha b hb rfl
      exact (hfresh a (by simpa using ha)).2 hb
  · intro b hb
    rcases List.mem_append.1 hb with hb | hb
    · exact (hfresh b (by simpa using hb)).1
    · rcases List.mem_append.1 hb with hb | hb
      · exact hf b (by simp [hb])
      · exact (hf2 b hb).1

/-- A destination of append: an owned slice, or nil; what is left when it is taken. -/
inductive Dst (σ : St) (e : TypeId) (t : Ty) (dp : Bool) : C → List t.T → St → Prop where
  | own {o : Nat} {xs : List t.T} (h : σ.objs o = some (.rows e t dp xs)) : Dst σ e t dp (.rf o .ar) xs (σ.setO o .dead)
  | nl : Dst σ e t dp .nl [] σ
theorem Free.kill {K : Ctx} {I : Nat → Prop} {g : Gh} {o b : Nat} {ad : Nat × Nat} {base : Value} (h : Free K I g b) : Free K I (g.setO o ad base []) b :=
  ⟨h.i, fun x hx => by
    by_cases ex : x = o
    · subst ex; rw [Gh.setO_eq.2.2] at hx; simp at hx
    · rw [(Gh.setO_ne ex).2.2] at hx; exact h.l x hx, h.m⟩
theorem Dst.ok [Glob] {K : Ctx} {w : World} {I : Nat → Prop} {g : Gh} {tm : Array Value} (hi : Inv K w I g σ tm) {e : TypeId} {t : Ty} {dp : Bool} {c : C} {xs : List t.T} {σ1 : St} {u : Value} (h : Dst σ e t dp c xs σ1) (hc : CR w I g σ.objs c u) :
    ∃ g1 L, Inv K w I g1 σ1 tm ∧ OA w I dp e t xs u L ∧ L.Nodup ∧ (∀ b ∈ L, Free K I g1 b ∧ ∀ b', Free K I g b' → b' ≠ b) ∧ ∀ b, Free K I g b → Free K I g1 b := by
  cases h with
  | own h =>
    rename_i o
    have hc' : seeO w I (g.addr o) (g.base o) (g.L o) (σ.objs o) .ar u := hc
    rw [h] at hc'
    have hu : u = g.base o := hc'
    subst hu
    obtain ⟨h1, h2⟩ := hi.kill h
    exact ⟨_, g.L o, h1, hi.rows h, hi.nod o, fun b hb => ⟨h2 b hb, fun b' hb' he => hb'.l o (he ▸ hb)⟩, fun b hb => hb.kill⟩
  | nl =>
    have hu : u = .slice none 0 0 := hc
    subst hu
    exact ⟨g, [], hi, ⟨[], [], ownsR_nil w e t.w, ⟨rfl, rfl⟩, rfl⟩, List.nodup_nil, fun b hb => by simp at hb, fun _ h => h⟩

/-- Typed cells, as data that stands fixed. -/
theorem castL_def : True := trivial
def castL {a b : Ty} (h : a = b) (xs : List a.T) : List b.T := h ▸ xs
@[simp] theorem castL_rfl {a : Ty} (h : a = a) (xs : List a.T) : castL h xs = xs := rfl
def castO {a b : Ty} (h : a = b) (xs : List a.T) : Option (List b.T) := match b, h with
  | _, rfl => some xs
def isFz : Option Ob → Bool
  | some (.fz _ _ _) => true
  | _ => false
def asT (ob : Nat → Option Ob) : (t : Ty) → C → Option t.T
  | .i k, .d (.i k') n => match decEq k' k with
    | isTrue _ => some (n : Int)
    | isFalse _ => none
  | .u8, .d .u8 b => some b
  | .bo, .d .bo b => some b
  | .st, .d .st b => some b
  | .sl e, .d (.sl e') xs => match decEq e' e with
    | isTrue h => castO h xs
    | isFalse _ => none
  | .sl e, .rf o r => match isFz (ob o), slC ob (.rf o r) with
    | true, some ⟨e', xs⟩ => match decEq e' e with
      | isTrue h => castO h xs
      | isFalse _ => none
    | _, _ => none
  | .sl e, .nl => some ([] : List e.T)
  | .sl e, .z => some ([] : List e.T)
  | _, _ => none
def mkT (ob : Nat → Option Ob) : (t : Ty) → List C → Option t.T
  | .pr a b, cs => match mkT ob a (cs.take a.w), mkT ob b (cs.drop a.w) with
    | some x, some y => some (x, y)
    | _, _ => none
  | .un, [] => some ()
  | .un, _ :: _ => none
  | .i k, [c] => asT ob (.i k) c
  | .u8, [c] => asT ob .u8 c
  | .bo, [c] => asT ob .bo c
  | .st, [c] => asT ob .st c
  | .sl e, [c] => asT ob (.sl e) c
  | _, _ => none
theorem fz_slC [Glob] {K : Ctx} {w : World} {I : Nat → Prop} {g : Gh} {tm : Array Value} (hi : Inv K w I g σ tm) {o : Nat} {r : Rf} {u : Value} {e : Ty} {xs : List e.T} (hf : isFz (σ.objs o) = true) (h : CR w I g σ.objs (.rf o r) u) (hc : slC σ.objs (.rf o r) = some ⟨e, xs⟩) : RT w I (.sl e) xs [u] := by
  have hL : g.L o = [] := by
    have hob := hi.obj o
    unfold ObR at hob
    unfold isFz at hf
    split at hf
    · rename_i hq; rw [hq] at hob; exact hob.1
    · cases hf
  have := CR.slC hi h hc
  simp only [C.oid, hL, List.not_mem_nil, or_false] at this
  exact this
theorem asT_ok [Glob] {K : Ctx} {w : World} {I : Nat → Prop} {g : Gh} {tm : Array Value} (hi : Inv K w I g σ tm) {t : Ty} {c : C} {x : t.T} {u : Value} (h : CR w I g σ.objs c u) (hc : asT σ.objs t c = some x) : RT w I t x [u] := by
  have emp : ∀ {e : Ty} {A : Option Addr}, u = .slice A 0 0 → RT w I (.sl e) ([] : List e.T) [u] := fun hu => ⟨_, 0, by rw [hu]; rfl, Nat.le_refl _, Nat.zero_le _, fun i x hx => by simp at hx⟩
  unfold asT at hc
  split at hc
  · split at hc
    · rename_i hk _; subst hk; cases hc; exact h
    · cases hc
  · cases hc; exact h
  · cases hc; exact h
  · cases hc; exact h
  · split at hc
    · rename_i hk _; subst hk; obtain rfl := Option.some.inj hc; exact h
    · cases hc
  · rename_i o r
    split at hc
    · rename_i e' xs hf hs
      split at hc
      · rename_i hk _; subst hk; obtain rfl := Option.some.inj hc; exact fz_slC hi hf h hs
      · cases hc
    · cases hc
  · cases hc; exact emp (A := none) h
  · cases hc; obtain ⟨A, hu⟩ := h; exact emp hu
  · cases hc
theorem mkT_ok [Glob] {K : Ctx} {w : World} {I : Nat → Prop} {g : Gh} {tm : Array Value} (hi : Inv K w I g σ tm) : ∀ {t : Ty} {cs : List C} {x : t.T} {us : List Value}, mkT σ.objs t cs = some x → us.length = cs.length → (∀ (j : Nat) (c : C), cs[j]? = some c → ∃ u, us[j]? = some u ∧ CR w I g σ.objs c u) → RT w I t x us := by
  have one : ∀ {t : Ty} {c : C} {x : t.T} {us : List Value}, asT σ.objs t c = some x → us.length = [c].length → (∀ (j : Nat) (c' : C), [c][j]? = some c' → ∃ u, us[j]? = some u ∧ CR w I g σ.objs c' u) → RT w I t x us := by
    intro t c x us h hl hc
    obtain ⟨u, hu, hr⟩ := hc 0 c rfl
    match us, hl with
    | [v], _ =>
      simp at hu
      subst hu
      exact asT_ok hi hr h
  intro t
  induction t with
  | pr a b iha ihb =>
    intro cs x us h hl hc
    unfold mkT at h
    split at h
    · rename_i x1 x2 h1 h2
      cases h
      refine ⟨us.take a.w, us.drop a.w, (List.take_append_drop _ _).symm, iha h1 (by simp [hl]) fun j c hj => ?_, ihb h2 (by simp [hl]) fun j c hj => ?_⟩
      · rw [List.getElem?_take] at hj ⊢
        split at hj
        · rename_i hlt; rw [if_pos hlt]; exact hc j c hj
        · cases hj
      · rw [List.getElem?_drop] at hj ⊢; exact hc _ c hj
    · cases h
  | un =>
    intro cs x us h hl hc
    cases cs with
    | nil => exact List.eq_nil_of_length_eq_zero hl
    | cons c cs => simp [mkT] at h
  | i k => intro cs x us h hl hc; match cs, h, hl, hc with
    | [c], h, hl, hc => exact one h hl hc
  | u8 => intro cs x us h hl hc; match cs, h, hl, hc with
    | [c], h, hl, hc => exact one h hl hc
  | bo => intro cs x us h hl hc; match cs, h, hl, hc with
    | [c], h, hl, hc => exact one h hl hc
  | st => intro cs x us h hl hc; match cs, h, hl, hc with
    | [c], h, hl, hc => exact one h hl hc
  | sl e _ => intro cs x us h hl hc; match cs, h, hl, hc with
    | [c], h, hl, hc => exact one h hl hc
/-- Rows of cells, as data. -/
def mkRows (ob : Nat → Option Ob) (t : Ty) : Nat → List C → Option (List t.T)
  | 0, [] => some []
  | 0, _ :: _ => none
  | n + 1, cs => match mkT ob t (cs.take t.w), mkRows ob t n (cs.drop t.w) with
    | some x, some xs => some (x :: xs)
    | _, _ => none
theorem mkRows_ok [Glob] {K : Ctx} {w : World} {I : Nat → Prop} {g : Gh} {tm : Array Value} (hi : Inv K w I g σ tm) {t : Ty} : ∀ {n : Nat} {cs : List C} {xs : List t.T} {us : List Value}, mkRows σ.objs t n cs = some xs → us.length = cs.length → (∀ (j : Nat) (c : C), cs[j]? = some c → ∃ u, us[j]? = some u ∧ CR w I g σ.objs c u) → xs.length = n ∧ Rows (fun x us L => L = [] ∧ RT w I t x us) xs us []
  | 0, [], xs, us, h, hl, _ => by cases h; exact ⟨rfl, List.eq_nil_of_length_eq_zero hl, rfl⟩
  | 0, _ :: _, _, _, h, _, _ => by simp [mkRows] at h
  | n + 1, cs, xs, us, h, hl, hc => by
    unfold mkRows at h
    split at h
    · rename_i x xs' h1 h2
      cases h
      obtain ⟨q1, q2⟩ := mkRows_ok hi (us := us.drop t.w) h2 (by simp [hl]) fun j c hj => by rw [List.getElem?_drop] at hj ⊢; exact hc _ c hj
      refine ⟨by simp [q1], us.take t.w, us.drop t.w, [], [], (List.take_append_drop _ _).symm, rfl, ⟨rfl, mkT_ok hi h1 (by simp [hl]) fun j c hj => ?_⟩, q2⟩
      rw [List.getElem?_take] at hj ⊢
      split at hj
      · rename_i hlt; rw [if_pos hlt]; exact hc j c hj
      · cases hj
    · cases h

/-- Read rows, as rows that are owned by their own cells, or flat ones. -/
theorem rows_RR {w : World} {I S : Nat → Prop} {dp : Bool} {t : Ty} {ys : List t.T} {news : List Value} (h : Rows (fun x us L => L = [] ∧ RT w S t x us) ys news []) (hk : t.flat = true ∨ (dp = false ∧ ∀ b, S b → I b)) : Rows (RR w I dp t) ys news [] := by
  refine h.mono fun x u L1 _ hb h => ?_
  obtain ⟨rfl, hr⟩ := h
  cases dp with
  | true =>
    rcases hk with hk | hk
    · exact RT.ot hk hr
    · cases hk.1
  | false =>
    refine ⟨rfl, ?_⟩
    rcases hk with hk | hk
    · exact RT.free hk hr
    · exact hr.sub hk.2
/-- Is a cell data that stands fixed? -/
def frzB (ob : Nat → Option Ob) : C → Bool
  | .d _ _ => true
  | .rf o _ => isFz (ob o)
  | _ => false
theorem frz_slC [Glob] {K : Ctx} {w : World} {I : Nat → Prop} {g : Gh} {tm : Array Value} (hi : Inv K w I g σ tm) {c : C} {u : Value} {e : Ty} {xs : List e.T} (hf : frzB σ.objs c = true) (h : CR w I g σ.objs c u) (hc : slC σ.objs c = some ⟨e, xs⟩) : RT w I (.sl e) xs [u] := by
  cases c with
  | d t x =>
    cases t with
    | sl e' =>
      simp only [slC, Option.some.injEq, Sigma.mk.injEq] at hc
      obtain ⟨rfl, hc⟩ := hc
      cases hc
      exact h
    | _ => simp [slC] at hc
  | rf o r => exact fz_slC hi hf h hc
  | _ => simp [frzB] at hf

def apOp (o : Op) : Option (Operand × Operand × TypeId) := match o with
  | .call { callee := .builtin .append, args, argTypes } => match args.toList, argTypes.toList with
    | [x, y], [ty, _] => some (x, y, ty)
    | _, _ => none
  | _ => none
/-- append: the core, as an operation. -/
theorem op_append [Glob] {o : Oper} {t' id : Nat} {x y : Operand} {ty e : TypeId} {t : Ty} {bytes : Nat} {dp : Bool} {cx : C} {xs ys : List t.T} {σ1 : St} {N : St → Prop} (ho : o.op = .call { callee := .builtin .append, args := #[x, y], argTypes := #[ty, ty] }) (hd : o.dst = some t') (ht : Nat.blt t' σ.n = true)
    (hT : tyB P ty e t.w bytes = true) (hx : σ.ev x = .one cx) (hdst : Dst σ e t dp cx xs σ1) (hid : σ1.objs id = none ∧ 1000 ≤ id) (hn : σ1.n = σ.n)
    (hsrc : ∀ (K : Ctx) (w : World) (I : Nat → Prop) (g : Gh) (tm : Array Value), Inv K w I g σ tm → ∃ a cap news, Act.eval ⟨tm, []⟩ y = .slice a ys.length cap ∧ Rows (RR w I dp t) ys news [] ∧ ((a = none ∧ ys.length = 0) ∨ ∃ a', a = some a' ∧ ∀ j v, news[j]? = some v → w.cell? (a'.add j) = some v))
    (hbd : (xs.length + ys.length) * bytes ≤ 140737488355328) (hml : xs.length + ys.length ≤ maxLen) (hN : N ((σ1.setO id (.rows e t dp (xs ++ ys))).put t' (.one (.rf id .ar)))) : OpW P o N σ := by
  refine OpW_obj (σ' := σ1.setO id (.rows e t dp (xs ++ ys))) hd ht hn (fun K w I g tm hi => ?_) hN
  obtain ⟨g1, L, hi1, hoa, hnd, hf, _⟩ := hdst.ok hi (hi.ev_one hx).1
  obtain ⟨a, cap, news, hu, hrows, hcells⟩ := hsrc K w I g tm hi
  obtain ⟨v', w', g', hrun, hinv, hbase⟩ := append_free (P := P) (ty' := o.type) hi1 hid (tyB_ok hT) hoa hnd (fun b hb => (hf b hb).1) hrows List.nodup_nil (fun b hb => by simp at hb) ⟨a, cap, hu, hcells⟩ hbd hml
  have hrw : OA w' I dp e t (xs ++ ys) v' (g'.L id) := by rw [← hbase]; exact hinv.rows (St.setO_same _ _ _)
  refine ⟨v', w', I, g', ?_, hinv, shape_one (hrw.rt.one v' (by simp)) ?_⟩
  · simp [execOp, ho, resolve, invoke, builtin, hrun]
  · show seeO _ _ _ _ _ ((σ1.setO _ _).objs _) _ _
    rw [St.setO_same]
    exact hbase.symm
/-- append of what reads as a slice. -/
theorem op_apS [Glob] {o : Oper} {t' id : Nat} {x y : Operand} {ty e : TypeId} {t : Ty} {bytes : Nat} {dp : Bool} {cx cy : C} {xs ys : List t.T} {σ1 : St} {N : St → Prop} (ho : o.op = .call { callee := .builtin .append, args := #[x, y], argTypes := #[ty, ty] }) (hd : o.dst = some t') (ht : Nat.blt t' σ.n = true)
    (hx : σ.ev x = .one cx) (hdst : Dst σ e t dp cx xs σ1) (hT : tyB P ty e t.w bytes = true) (hy : σ.ev y = .one cy) (hs : slC σ.objs cy = some ⟨t, ys⟩) (hk : (t.flat || (!dp && frzB σ.objs cy)) = true) (hid : newO σ1.objs t' = some id) (hn : σ1.n = σ.n)
    (hbd : (xs.length + ys.length) * bytes ≤ 140737488355328) (hml : xs.length + ys.length ≤ maxLen) (hN : N ((σ1.setO id (.rows e t dp (xs ++ ys))).put t' (.one (.rf id .ar)))) : OpW P o N σ := by
  refine op_append ho hd ht hT hx hdst (newO_ok hid) hn (fun K w I g tm hi => ?_) hbd hml hN
  have hc := (hi.ev_one hy).1
  cases hf : t.flat with
  | true =>
    obtain ⟨a, cap, news, h1, h2, h3⟩ := rt_src (CR.slC hi hc hs)
    exact ⟨a, cap, news, h1, rows_RR h2 (.inl hf), h3⟩
  | false =>
    rw [hf] at hk
    simp only [Bool.false_or, Bool.and_eq_true, Bool.not_eq_true'] at hk
    obtain ⟨a, cap, news, h1, h2, h3⟩ := rt_src (frz_slC hi hk.2 hc hs)
    exact ⟨a, cap, news, h1, rows_RR h2 (.inr ⟨hk.1, fun _ h => h⟩), h3⟩
/-- append of written-out cells. -/
theorem op_apL [Glob] {o : Oper} {t' id k wd m : Nat} {x y : Operand} {ty e e' : TypeId} {t : Ty} {bytes : Nat} {dp : Bool} {cx : C} {cs : List C} {xs ys : List t.T} {σ1 : St} {N : St → Prop} (ho : o.op = .call { callee := .builtin .append, args := #[x, y], argTypes := #[ty, ty] }) (hd : o.dst = some t') (ht : Nat.blt t' σ.n = true)
    (hx : σ.ev x = .one cx) (hdst : Dst σ e t dp cx xs σ1) (hT : tyB P ty e t.w bytes = true) (hy : σ.ev y = .one (.rf k (.as wd m e'))) (hq : σ.objs k = some (.cells cs)) (hs : mkRows σ.objs t m cs = some ys) (hk : (t.flat || !dp) = true) (hid : newO σ1.objs t' = some id) (hn : σ1.n = σ.n)
    (hbd : (xs.length + ys.length) * bytes ≤ 140737488355328) (hml : xs.length + ys.length ≤ maxLen) (hN : N ((σ1.setO id (.rows e t dp (xs ++ ys))).put t' (.one (.rf id .ar)))) : OpW P o N σ := by
  refine op_append ho hd ht hT hx hdst (newO_ok hid) hn (fun K w I g tm hi => ?_) hbd hml hN
  have hc := (hi.ev_one hy).1
  have hc' : seeO w I (g.addr k) (g.base k) (g.L k) (σ.objs k) (.as wd m e') (Act.eval ⟨tm, []⟩ y) := hc
  rw [hq] at hc'
  obtain ⟨hu, _, _⟩ := hc'
  obtain ⟨_, hbx⟩ := hi.cells hq
  have hl : ∀ (j : Nat) (c : C), cs[j]? = some c → ∃ v, w.cell? ⟨(g.addr k).1, (g.addr k).2 + j, none⟩ = some v ∧ v.oneCell' = true ∧ CR w I g σ.objs c v := fun j c hj => by
    obtain ⟨v, h1, _, h3, _, h5⟩ := hbx j c hj
    exact ⟨v, h1, h3, h5⟩
  obtain ⟨news, hnl, hnews⟩ := agg_of hl cs.length (Nat.le_refl _)
  obtain ⟨h1, h2⟩ := mkRows_ok hi (us := news) hs hnl fun j c hj => by
    have hlt : j < news.length := by rw [hnl]; exact (List.getElem?_eq_some_iff.1 hj).1
    obtain ⟨_, _, c', q1, q2⟩ := hnews j news[j] (List.getElem?_eq_getElem hlt)
    rw [hj] at q1
    cases q1
    exact ⟨_, List.getElem?_eq_getElem hlt, q2⟩
  refine ⟨_, m, news, by rw [h1]; exact hu, rows_RR h2 ?_, .inr ⟨_, rfl, fun j v hv => ?_⟩⟩
  · simp only [Bool.or_eq_true, Bool.not_eq_true'] at hk
    exact hk.imp (fun h => h) fun h => ⟨h, fun _ h => h⟩
  · rw [addr_add]; exact (hnews j v hv).1
/-- append of nothing. -/
theorem op_apN [Glob] {o : Oper} {t' id : Nat} {x y : Operand} {ty e : TypeId} {t : Ty} {bytes : Nat} {dp : Bool} {cx : C} {xs : List t.T} {σ1 : St} {N : St → Prop} (ho : o.op = .call { callee := .builtin .append, args := #[x, y], argTypes := #[ty, ty] }) (hd : o.dst = some t') (ht : Nat.blt t' σ.n = true)
    (hx : σ.ev x = .one cx) (hdst : Dst σ e t dp cx xs σ1) (hT : tyB P ty e t.w bytes = true) (hy : σ.ev y = .one .nl) (hid : newO σ1.objs t' = some id) (hn : σ1.n = σ.n)
    (hbd : xs.length * bytes ≤ 140737488355328) (hml : xs.length ≤ maxLen) (hN : N ((σ1.setO id (.rows e t dp xs)).put t' (.one (.rf id .ar)))) : OpW P o N σ := by
  refine op_append (ys := []) ho hd ht hT hx hdst (newO_ok hid) hn (fun K w I g tm hi => ?_) (by simpa using hbd) (by simpa using hml) (by simpa using hN)
  exact ⟨none, 0, [], (hi.ev_one hy).1, ⟨rfl, rfl⟩, .inl ⟨rfl, rfl⟩⟩
end Go.LX

