/- New objects, and stores. -/
import Derived.Test.YtojaiockbpcilaaLxLit
import Derived.Laws.OwnMore
import Derived.Laws.MakeOwn
set_option linter.unusedVariables false
set_option linter.unusedSimpArgs false
namespace Go.LX

variable {P : Program} {σ : St}

/-- An operation that turns objects and leaves a value. -/
theorem OpW_obj [Glob] {o : Oper} {t : Nat} {σ' : St} {s : SV} {N : St → Prop} (hd : o.dst = some t) (ht : Nat.blt t σ.n = true) (hn : σ'.n = σ.n)
    (h : ∀ (K : Ctx) (w : World) (I : Nat → Prop) (g : Gh) (tm : Array Value), Inv K w I g σ tm → ∃ u w' I' g', (execOp (Act.eval ⟨tm, []⟩) o).run P w = .ok (.value u) w' ∧ Inv K w' I' g' σ' tm ∧ ShapeOK s u ∧ ∀ (i : Nat) (c : C), s.cells[i]? = some c → ∃ v, (valCells u)[i]? = some v ∧ CR w' I' g' σ'.objs c v)
    (hN : N (σ'.put t s)) : OpW P o N σ := by
  intro K w I g tm hi
  obtain ⟨u, w', I', g', h1, h2, h3, h4⟩ := h K w I g tm hi
  rw [h1]
  simp only [Oper.upon, Act.put, hd]
  exact ⟨trivial, _, I', g', hN, h2.put (by rw [hn]; exact Nat.le_of_ble_eq_true ht) h3 h4⟩
/-- An operation that turns objects and leaves none. -/
theorem OpW_do [Glob] {o : Oper} {σ' : St} {N : St → Prop} (hd : o.dst = none)
    (h : ∀ (K : Ctx) (w : World) (I : Nat → Prop) (g : Gh) (tm : Array Value), Inv K w I g σ tm → ∃ w' I' g', (execOp (Act.eval ⟨tm, []⟩) o).run P w = .ok .skip w' ∧ Inv K w' I' g' σ' tm)
    (hN : N σ') : OpW P o N σ := by
  intro K w I g tm hi
  obtain ⟨w', I', g', h1, h2⟩ := h K w I g tm hi
  rw [h1]
  simp only [Oper.upon, Act.put, hd]
  exact ⟨trivial, _, I', g', hN, h2⟩

def isNew (ob : Nat → Option Ob) (o : Nat) : Bool := Nat.ble 1000 o && match ob o with | none => true | some _ => false
theorem isNew_ok {ob : Nat → Option Ob} {o : Nat} (h : isNew ob o = true) : ob o = none ∧ 1000 ≤ o := by
  unfold isNew at h
  obtain ⟨h1, h⟩ := Bool.and_eq_true_iff.1 h
  refine ⟨?_, Nat.le_of_ble_eq_true h1⟩
  split at h
  · assumption
  · cases h

def newO' (ob : Nat → Option Ob) : Nat → Nat → Option Nat
  | 0, _ => none
  | f + 1, b => match isNew ob b with
    | true => some b
    | false => newO' ob f (b + 1)
/-- The number of an object that slot t's operation makes. -/
def newO (ob : Nat → Option Ob) (t : Nat) : Option Nat := newO' ob 8 (1000 * (t + 1))
theorem newO_ok {ob : Nat → Option Ob} {t id : Nat} (h : newO ob t = some id) : ob id = none ∧ 1000 ≤ id := by
  have key : ∀ {f b : Nat}, newO' ob f b = some id → ob id = none ∧ 1000 ≤ id := by
    intro f
    induction f with
    | zero => intro b h; cases h
    | succ f ih =>
      intro b h
      unfold newO' at h
      split at h
      · rename_i hb; cases h; exact isNew_ok hb
      · exact ih h
  exact key h

theorem free_new [Glob] {K : Ctx} {w : World} {I : Nat → Prop} {g : Gh} {tm : Array Value} (hi : Inv K w I g σ tm) {b : Nat} (hb : w.heap.size ≤ b) : Free K I g b :=
  ⟨fun h => by have := (hi.immX b h).1; omega, fun o h => by have := hi.ob_lt h; omega, fun h => by have := hi.fr.size; omega⟩
theorem Below.allocW (w : World) (o : Obj) : Go.RowKit.Below w.heap.size w (w.alloc o) := (Go.RowKit.Below.refl _ _).alloc (Nat.le_refl _) o
theorem heap_new_cell (w : World) (us : Array Value) (e : TypeId) (j : Nat) : (w.alloc (.cells us e)).cell? ⟨w.heap.size, j, none⟩ = us[j]? := by
  unfold World.cell?; rw [heap_alloc_new]; simp
theorem heap_new_froz (w : World) (us : Array Value) (e : TypeId) (j : Nat) : (w.alloc (.cells us e)).frozen? ⟨w.heap.size, j, none⟩ = false := by
  unfold World.frozen?; rw [heap_alloc_new]; simp

/-- A new block of cells. -/
theorem Inv.allocCells [Glob] {K : Ctx} {w : World} {I : Nat → Prop} {g : Gh} {tm : Array Value} (hi : Inv K w I g σ tm) {o : Nat} {cs : List C} {us : Array Value} {e : TypeId} (ho : σ.objs o = none ∧ 1000 ≤ o)
    (hc : ∀ (j : Nat) (c : C), cs[j]? = some c → ∃ u, us[j]? = some u ∧ u.oneCell' = true ∧ CR w I g σ.objs c u) :
    Inv K (w.alloc (.cells us e)) I (g.setO o (w.heap.size, 0) (g.base o) [w.heap.size]) (σ.setO o (.cells cs)) tm := by
  have hg := hi.grow (Below.allocW w (.cells us e))
  refine hg.newCells ho.1 ho.2 (by simp) (free_new hi (Nat.le_refl _)) (by have := hi.fr.size; omega) fun j c hj => ?_
  obtain ⟨u, h1, h2, h3⟩ := hc j c hj
  refine ⟨u, by rw [heap_new_cell]; exact h1, heap_new_froz _ _ _ _, h2, ?_⟩
  have hT : ∀ b, b < w.heap.size → (w.alloc (.cells us e)).heap[b]? = w.heap[b]? := fun b hb => (Below.allocW w (.cells us e)).block b hb
  refine h3.keep (fun b hb => ⟨hb, fun f => cell_block (hT b (hi.immX b hb).1) f⟩) fun x r v hs => ?_
  have hob := hi.obj x
  unfold ObR at hob
  cases hq : σ.objs x with
  | none => rw [hq] at hs; exact hs.elim
  | some q =>
    rw [hq] at hs hob
    simp only [seeO] at hs ⊢
    cases q with
    | dead => exact see_dead
    | cells cs => exact see_cells rfl hs
    | rows e t dp xs =>
      refine see_same (fun b hb => ⟨hb, fun f => cell_block (hT b (hi.immX b hb).1) f⟩) (fun b hb => ⟨id, fun f => cell_block (hT b ?_) f⟩) hs
      rcases hb with hb | hb
      · exact hi.ob_lt hb
      · obtain ⟨vs, L', ho, hr, e⟩ := hob
        exact hi.ob_lt (o := x) (by rw [e, hb]; simp)
    | fz t dp xs =>
      obtain ⟨h0, A, cap, hb0, hc1, hc2, hc3⟩ := hob
      cases r with
      | ns i j =>
        cases dp with
        | false => trivial
        | true =>
          obtain ⟨h0', b, f1, cap, h1, h2, h3⟩ := hs
          refine ⟨h0', b, f1, cap, h1, h2, ?_⟩
          rw [h1] at hb0
          simp only [List.cons.injEq, Value.slice.injEq, and_true] at hb0
          obtain ⟨b', o', vs, hA, hca, _⟩ := hc3 i xs[i] (List.getElem?_eq_getElem h2)
          rw [← hb0.1] at hA
          cases hA
          rw [cell_block (hT _ (hi.immX _ hca.1).1)]; exact h3
      | vw t x => cases dp with
        | false => trivial
        | true => exact RT.kept (fun b hb => hb) (fun b hb f => cell_block (hT b (hi.immX b hb).1) f) hs
      | vp t x j => cases dp with
        | false => trivial
        | true => exact PD.kept hs (fun b hb => hb) (fun b hb f => cell_block (hT b (hi.immX b hb).1) f)
      | _ => exact hs

/-- A struct or a number put into a box of its own. -/
def evBox (ob : Nat → Option Ob) (t : Nat) (s : SV) : Option (Nat × List C) := match newO ob t, s.flat with
  | some id, some cs => some (id, cs)
  | _, _ => none
theorem op_box [Glob] {o : Oper} {t id : Nat} {e : TypeId} {x : Operand} {cs : List C} {N : St → Prop} (ho : o.op = .box e x) (hd : o.dst = some t) (ht : Nat.blt t σ.n = true)
    (h : evBox σ.objs t (σ.ev x) = some (id, cs)) (hN : N ((σ.setO id (.cells cs)).put t (.one (.rf id (.pb 0))))) : OpW P o N σ := by
  refine OpW_obj (σ' := σ.setO id (.cells cs)) hd ht rfl (fun K w I g tm hi => ?_) hN
  unfold evBox at h
  split at h
  · rename_i id' cs' hn hf
    cases h
    obtain ⟨h1, h2⟩ := hi.ev x rfl
    obtain ⟨q1, q2, q3⟩ := shape_cells hf h1
    have hnew := hi.allocCells (us := (Act.eval ⟨tm, []⟩ x).cells) (e := e) (newO_ok hn) (cs := cs) fun j c hj => by
      obtain ⟨u, hu, hr⟩ := h2 j c (by rw [flat_cells hf]; exact hj)
      rw [q1] at hu
      exact ⟨u, by simpa using hu, q3 u (List.mem_of_getElem? hu), hr⟩
    refine ⟨.pointer (some ⟨w.heap.size, 0, none⟩), _, I, _, ?_, hnew, shape_one rfl ?_⟩
    · simp [execOp, ho, Instr.box, newVar, newRow]
    · show seeO _ _ _ _ _ ((σ.setO _ _).objs _) _ _
      rw [St.setO_same, Gh.setO_eq.1]
      rfl
  · cases h
def evAlloc (P : Program) (ob : Nat → Option Ob) (t : Nat) (e : TypeId) : Option (Nat × List C) := match newO ob t, zeroB P e with
  | some id, some zs => bif plainZ zs then some (id, zs.map C.ofZ) else none
  | _, _ => none
theorem op_alloc [Glob] {o : Oper} {t id : Nat} {e : TypeId} {cs : List C} {N : St → Prop} (ho : o.op = .alloc e) (hd : o.dst = some t) (ht : Nat.blt t σ.n = true)
    (h : evAlloc P σ.objs t e = some (id, cs)) (hN : N ((σ.setO id (.cells cs)).put t (.one (.rf id (.pb 0))))) : OpW P o N σ := by
  refine OpW_obj (σ' := σ.setO id (.cells cs)) hd ht rfl (fun K w I g tm hi => ?_) hN
  unfold evAlloc at h
  split at h
  · rename_i id' zs hn hz
    cases hp : plainZ zs with
    | false => rw [hp] at h; cases h
    | true =>
      rw [hp] at h
      simp only [cond_true, Option.some.injEq, Prod.mk.injEq] at h
      obtain ⟨rfl, rfl⟩ := h
      unfold zeroB at hz
      cases hinf : P.info? e with
      | none => simp [hinf] at hz
      | some inf =>
        cases hzz : inf.zero with
        | none => simp [hinf, hzz] at hz
        | some z =>
          simp [hinf, hzz] at hz
          have hnew := hi.allocCells (us := z.cells) (e := e) (newO_ok hn) (cs := zs.map C.ofZ) fun j c hj => by
            simp only [List.getElem?_map, Option.map_eq_some_iff] at hj
            obtain ⟨v, hv, rfl⟩ := hj
            exact ⟨v, by rw [← hz] at hv; simpa using hv, List.all_eq_true.1 hp v (List.mem_of_getElem? hv), CR.ofZ⟩
          refine ⟨.pointer (some ⟨w.heap.size, 0, none⟩), _, I, _, ?_, hnew, shape_one rfl ?_⟩
          · simp [execOp, ho, Instr.alloc, zeroValue, typeInfo, hinf, hzz, newVar, newRow]
          · show seeO _ _ _ _ _ ((σ.setO _ _).objs _) _ _
            rw [St.setO_same, Gh.setO_eq.1]
            rfl

  · cases h

/-! ### Stores into boxes -/
def evStB (P : Program) (ob : Nat → Option Ob) (ty : TypeId) (sx s : SV) : Option (Nat × List C) :=
  match sx with
  | .one (.rf o (.pb c)) => match ob o with
    | some (.cells cs) => s.flat.bind fun cs' => (sizeB P ty).bind fun n => bif Nat.blt 0 n && (Nat.beq n cs'.length && Nat.ble (c + n) cs.length) then some (o, cs.take c ++ cs' ++ cs.drop (c + n)) else none
    | _ => none
  | _ => none
theorem op_store_b [Glob] {o : Oper} {ty : TypeId} {x y : Operand} {id : Nat} {cs2 : List C} {N : St → Prop} (ho : o.op = .store ty x y) (hd : o.dst = none)
    (h : evStB P σ.objs ty (σ.ev x) (σ.ev y) = some (id, cs2)) (hN : N (σ.setO id (.cells cs2))) : OpW P o N σ := by
  refine OpW_do (σ' := σ.setO id (.cells cs2)) hd (fun K w I g tm hi => ?_) hN
  unfold evStB at h
  split at h
  · rename_i bx c hx
    split at h
    · rename_i cs hq
      simp only [Option.bind_eq_some_iff] at h
      obtain ⟨cs', hf, n, hsz, h⟩ := h
      cases hb : (Nat.blt 0 n && (Nat.beq n cs'.length && Nat.ble (c + n) cs.length)) with
      | false => rw [hb] at h; cases h
      | true =>
        rw [hb] at h
        simp only [cond_true, Option.some.injEq, Prod.mk.injEq] at h
        obtain ⟨rfl, rfl⟩ := h
        obtain ⟨b0, hb⟩ := Bool.and_eq_true_iff.1 hb
        have b0 := Nat.le_of_ble_eq_true b0
        obtain ⟨b1, b2⟩ := Bool.and_eq_true_iff.1 hb
        obtain rfl := Nat.eq_of_beq_eq_true b1
        have hl := Nat.le_of_ble_eq_true b2
        have hp := (hi.ev_one hx).1
        have ea : Act.eval ⟨tm, []⟩ x = .pointer (some ⟨(g.addr bx).1, (g.addr bx).2 + c, none⟩) := by
          have hp' : seeO w I (g.addr bx) (g.base bx) (g.L bx) (σ.objs bx) (.pb c) (Act.eval ⟨tm, []⟩ x) := hp
          rw [hq] at hp'; exact hp'
        obtain ⟨h1, h2⟩ := hi.ev y rfl
        obtain ⟨q1, q2, q3⟩ := shape_cells hf h1
        obtain ⟨hL, hbx⟩ := hi.cells hq
        have hnew : ∀ (i : Nat) (c : C), cs'[i]? = some c → ∃ u, (Act.eval ⟨tm, []⟩ y).cells.toList[i]? = some u ∧ u.oneCell' = true ∧ CR w I g σ.objs c u := by
          intro i c hc
          obtain ⟨u, hu, hr⟩ := h2 i c (by rw [flat_cells hf]; exact hc)
          rw [q1] at hu
          exact ⟨u, hu, q3 u (List.mem_of_getElem? hu), hr⟩
        have hroom : ∀ j, j < (Act.eval ⟨tm, []⟩ y).cells.toList.length → (w.cell? ⟨(g.addr bx).1, (g.addr bx).2 + c + j, none⟩).isSome = true ∧ w.frozen? ⟨(g.addr bx).1, (g.addr bx).2 + c + j, none⟩ = false := by
          intro j hj
          have hlt : c + j < cs.length := by omega
          obtain ⟨u, e1, e2, _⟩ := hbx (c + j) cs[c + j] (List.getElem?_eq_getElem hlt)
          rw [Nat.add_assoc]
          exact ⟨by rw [e1]; rfl, e2⟩
        have hrun : (execOp (Act.eval ⟨tm, []⟩) o).run P w = .ok .skip (putC w (g.addr bx).1 ((g.addr bx).2 + c) (Act.eval ⟨tm, []⟩ y).cells.toList) := by
          have := run_storeVar_box (P := P) (ty := ty) (b := (g.addr bx).1) (o := (g.addr bx).2 + c) (w := w) (v := Act.eval ⟨tm, []⟩ y) (by rw [hsz, ← q2, Array.length_toList]) hroom q3
          simp [execOp, ho, ea, Instr.storeAt, Instr.sureAddr, this]
        obtain ⟨f1, f2, f3, f4, f5, f6, f7⟩ := putC_facts (b := (g.addr bx).1) (vs := (Act.eval ⟨tm, []⟩ y).cells.toList) (o := (g.addr bx).2 + c) (w := w) (fun j hj => (hroom j hj).1)
        generalize putC w (g.addr bx).1 ((g.addr bx).2 + c) (Act.eval ⟨tm, []⟩ y).cells.toList = w' at f1 f2 f3 f4 f5 f6 f7 hrun
        generalize hvs : (Act.eval ⟨tm, []⟩ y).cells.toList = vs at *
        refine ⟨w', I, _, hrun, hi.one (T := fun b => b = (g.addr bx).1) (L := g.L bx) (ad := g.addr bx) (base := g.base bx) ⟨f5, f6, f7, by omega, fun b _ hb => f3 b hb⟩ (fun b hb => .inl (by rw [hL]; simp [hb])) ?_ (fun _ h => h) (fun b hb => .inl hb) (hi.nod bx)
          (fun b hb => ⟨by rw [f4]; exact hi.ob_lt hb, .inl hb, (hi.own bx b hb).2.2⟩) (fun a ha => by obtain ⟨e1, e2, e3, _⟩ := (hi.ext bx a ha).2 _ hq; exact ⟨e1, e2, e3, _, rfl⟩) (fun v hv => (hi.exB bx v hv).2 _ hq) ?_ fun hk hI => ?_⟩
        · have h0 : 0 < cs.length := by omega
          have notOld : ∀ b, b < K.w0.heap.size → (∀ o, ¬ K.R b o) → b ≠ (g.addr bx).1 := by
            rintro b hb' hR rfl
            obtain ⟨u, _, _, _, e4, _⟩ := hbx 0 cs[0] (List.getElem?_eq_getElem h0)
            exact hR _ (e4 hb')
          exact {
            os := f5.trans hi.fr.os
            tape := f6.trans hi.fr.tape
            output := f7.trans hi.fr.output
            size := by rw [f4]; exact hi.fr.size
            old := fun b hb' hX hR => (f3 b (notOld b hb' hR)).trans (hi.fr.old b hb' hX hR)
            part := fun b hb' hX o' hR => by
              rw [f1]
              split
              · rename_i hh
                obtain ⟨rfl, l1, l2⟩ := hh
                have hj : o' - (g.addr bx).2 < cs.length := by omega
                obtain ⟨u, _, _, _, e4, _⟩ := hbx (o' - (g.addr bx).2) cs[o' - (g.addr bx).2] (List.getElem?_eq_getElem hj)
                refine absurd (e4 hb') ?_
                rw [show (g.addr bx).2 + (o' - (g.addr bx).2) = o' by omega]
                exact hR
              · exact hi.fr.part b hb' hX o' hR
            froz := fun b hb' hX o' => (f2 b o').trans (hi.fr.froz b hb' hX o') }
        · intro r u hs
          rw [hq] at hs
          rw [St.setO_same, Gh.setO_eq.1, Gh.setO_eq.2.1]
          refine see_cells ?_ hs
          simp only [List.length_append, List.length_take, List.length_drop]
          omega
        · unfold ObR
          rw [St.setO_same]
          show (g.setO bx (g.addr bx) (g.base bx) (g.L bx)).L bx = [((g.setO bx (g.addr bx) (g.base bx) (g.L bx)).addr bx).1] ∧ BoxR K w' I (g.setO bx (g.addr bx) (g.base bx) (g.L bx)) _ bx _
          rw [Gh.setO_eq.2.2]
          unfold BoxR
          rw [Gh.setO_eq.1]
          refine ⟨hL, fun j c0 hj => ?_⟩
          rw [splice_get hl] at hj
          by_cases hjr : c ≤ j ∧ j < c + cs'.length
          · rw [if_pos hjr] at hj
            obtain ⟨u, hu, h1', hr⟩ := hnew (j - c) c0 hj
            have hjc : j < cs.length := by omega
            obtain ⟨_, _, e2, _, e4, _⟩ := hbx j cs[j] (List.getElem?_eq_getElem hjc)
            refine ⟨u, ?_, (f2 _ _).trans e2, h1', e4, hr.keep hI hk⟩
            rw [f1, if_pos ⟨rfl, by omega, by omega⟩, show (g.addr bx).2 + j - ((g.addr bx).2 + c) = j - c by omega]
            exact hu
          · rw [if_neg hjr] at hj
            obtain ⟨u, e1, e2, e3, e4, e5⟩ := hbx j c0 hj
            refine ⟨u, ?_, (f2 _ _).trans e2, e3, e4, e5.keep hI hk⟩
            rw [f1, if_neg]
            · exact e1
            · rintro ⟨_, l1, l2⟩
              exact hjr ⟨by omega, by omega⟩
    · cases h
  · cases h
end Go.LX
