/- The operations that read memory: loads, addresses, sub-slices. -/
import Derived.Test.YtbebnlhgnbnjoaaAxOps
namespace Go.AX

variable {P : Program} {σ : St}

theorem addr_add (b o j : Nat) : (⟨b, o, none⟩ : Addr).add j = ⟨b, o + j, none⟩ := by
  unfold Addr.add
  split
  · subst_vars; rfl
  · rfl

/-- Is a type a struct (or an array)? -/
def aggB (P : Program) (ty : TypeId) : Option Bool := (P.underlying ty).map fun d => match d with | .struct _ | .array _ _ => true | _ => false
def sizeB (P : Program) (ty : TypeId) : Option Nat := (P.info? ty).map (·.size)
/-- Where a field lies (a field of no cells apart). -/
def fieldOff (P : Program) (s : TypeId) (f : Nat) : Option Nat :=
  match P.underlying s with
  | some (.struct fs) => match fs[f]? with
    | some fld => match sizeB P fld.type with
      | some (_ + 1) => some fld.offset
      | _ => none
    | none => none
  | _ => none

theorem run_isAgg {ty : TypeId} {b : Bool} (h : aggB P ty = some b) (w : World) : (isAgg ty).run P w = .ok b w := by
  unfold aggB at h
  cases hu : P.underlying ty with
  | none => simp [hu] at h
  | some d =>
    simp [hu] at h
    simp only [isAgg, Sem.run_bind, run_underlying hu, Result.andThen_ok]
    cases d <;> simp_all
theorem run_sizeB {ty : TypeId} {n : Nat} (h : sizeB P ty = some n) (w : World) : (sizeOf ty).run P w = .ok n w := by
  unfold sizeB at h
  cases hu : P.info? ty with
  | none => simp [hu] at h
  | some d => simp [hu] at h; simp [sizeOf, typeInfo, hu, h]

theorem run_loadVar_one {ty : TypeId} {w : World} {a : Addr} {v : Value} (hb : aggB P ty = some false) (h : w.cell? a = some v) : (loadVar ty a).run P w = .ok v w := by
  simp [loadVar, run_isAgg hb, h]
theorem run_loadVar_agg {ty : TypeId} {w : World} {b o n : Nat} {vs : List Value} (hb : aggB P ty = some true) (hn : sizeB P ty = some n) (hl : vs.length = n) (h : ∀ j u, vs[j]? = some u → w.cell? ⟨b, o + j, none⟩ = some u) :
    (loadVar ty ⟨b, o, none⟩).run P w = .ok (.agg vs.toArray) w := by
  have := run_loadCells_list (P := P) w ⟨b, o, none⟩ vs (fun j v hv => by rw [addr_add]; exact h j v hv)
  subst hl
  simp [loadVar, run_isAgg hb, run_sizeB hn, this]

/-- Loads out of a box. -/
theorem op_load_one {o : Oper} {t : Nat} {ty : TypeId} {x : Operand} {bx c : Nat} {cs : List C} {cell : C} {N : St → Prop} (ho : o.op = .load ty x) (hd : o.dst = some t) (ht : Nat.blt t σ.n = true) (h0 : (σ.slots t).noOw = true)
    (hx : σ.ev x = .one (.bp bx c)) (hb : σ.boxes bx = some cs) (hc : cs[c]? = some cell) (hag : aggB P ty = some false) (hN : N (σ.put t (.one (cell.asView ⟨true, bx, c⟩)))) : OpW P o N σ := by
  refine OpW_put hd ht h0 (fun K w I g tm hi => ?_) hN
  obtain ⟨pl, hr, _, _⟩ := hi.ev_one hx
  obtain ⟨u, h1, _, h3, _, h5⟩ := hi.boxc bx cs hb c cell hc
  refine ⟨u, ?_, h3, fun i c' hi' => ?_⟩
  · have e : Act.eval ⟨tm, []⟩ x = .pointer (some ⟨(g.addr bx).1, (g.addr bx).2 + c, none⟩) := hr.1
    simp [execOp, ho, e, Instr.loadAt, Instr.sureAddr, run_loadVar_one hag h1]
  · cases i with
    | succ i => simp [SV.cells] at hi'
    | zero =>
      simp [SV.cells] at hi'
      subst hi'
      refine ⟨u, ?_, h5.view ?_ ?_⟩
      · revert h3; cases u <;> simp [Value.oneCell', valCells, Value.cells]
      · unfold realAt; rw [if_pos rfl]; exact h1
      · simp [St.absAt, hb, hc]

theorem op_load_agg {o : Oper} {t : Nat} {ty : TypeId} {x : Operand} {bx c n : Nat} {cs : List C} {N : St → Prop} (ho : o.op = .load ty x) (hd : o.dst = some t) (ht : Nat.blt t σ.n = true) (h0 : (σ.slots t).noOw = true)
    (hx : σ.ev x = .one (.bp bx c)) (hb : σ.boxes bx = some cs) (hag : aggB P ty = some true) (hsz : sizeB P ty = some n) (hl : c + n ≤ cs.length) (hN : N (σ.put t (.ag (asViews true bx c ((cs.drop c).take n))))) : OpW P o N σ := by
  refine OpW_put hd ht h0 (fun K w I g tm hi => ?_) hN
  obtain ⟨pl, hr, _, _⟩ := hi.ev_one hx
  have hbx := hi.boxc bx cs hb
  -- the cells, one by one
  have key : ∀ n, c + n ≤ cs.length → ∃ us : List Value, us.length = n ∧ ∀ j u, us[j]? = some u → w.cell? ⟨(g.addr bx).1, (g.addr bx).2 + c + j, none⟩ = some u ∧ ∃ cell, cs[c + j]? = some cell ∧ CR w I g σ tm ⟨true, bx, c + j⟩ cell u := by
    intro n
    induction n with
    | zero => exact fun _ => ⟨[], rfl, fun j u h => by simp at h⟩
    | succ n ih =>
      intro hn
      obtain ⟨us, hul, hus⟩ := ih (by omega)
      have hlt : c + n < cs.length := by omega
      obtain ⟨u, h1, _, _, _, h5⟩ := hbx (c + n) cs[c + n] (List.getElem?_eq_getElem hlt)
      refine ⟨us ++ [u], by simp [hul], fun j v hv => ?_⟩
      rw [List.getElem?_append] at hv
      split at hv
      · exact hus j v hv
      · have : j - us.length = 0 := by
          cases hq : j - us.length with
          | zero => rfl
          | succ q => rw [hq] at hv; simp at hv
        have hj : j = n := by omega
        subst hj
        rw [hul, Nat.sub_self] at hv
        simp at hv
        subst hv
        exact ⟨by rw [Nat.add_assoc]; exact h1, _, List.getElem?_eq_getElem hlt, h5⟩
  obtain ⟨us, hul, hus⟩ := key n hl
  refine ⟨.agg us.toArray, ?_, ⟨us, rfl, ?_⟩, fun i c' hi' => ?_⟩
  · have e : Act.eval ⟨tm, []⟩ x = .pointer (some ⟨(g.addr bx).1, (g.addr bx).2 + c, none⟩) := hr.1
    simp [execOp, ho, e, Instr.loadAt, Instr.sureAddr, run_loadVar_agg hag hsz hul fun j u h => (hus j u h).1]
  · rw [asViews_len, List.length_take, List.length_drop, hul]; omega
  · obtain ⟨c0, hc0, rfl⟩ := asViews_get hi'
    rw [List.getElem?_take] at hc0
    split at hc0
    · rename_i hlt
      rw [List.getElem?_drop] at hc0
      have hiu : i < us.length := by omega
      obtain ⟨h1, cell, h2, h3⟩ := hus i us[i] (List.getElem?_eq_getElem hiu)
      rw [hc0] at h2
      obtain rfl := Option.some.inj h2
      refine ⟨us[i], ?_, h3.view ?_ ?_⟩
      · simp [valCells, Value.cells, hiu]
      · unfold realAt; rw [if_pos rfl]; rw [← Nat.add_assoc]; exact h1
      · simp [St.absAt, hb, hc0]
    · cases hc0

/-- A cell that is read in p's memory. -/
def D.inV (p : Pl) : D → C
  | .v x => .d (.v x)
  | .sl rs => .vw p false rs
  | .p cs => .vp p cs
  | .f .. => .any
theorem CR.inV {w : World} {I : Nat → Prop} {g : Gh} {tm : Array Value} {p pl : Pl} {d : D} {u : Value} (h : Rd w (fun b => I b ∨ b ∈ g.L p) d u) : CR w I g σ tm pl (d.inV p) u := by
  cases d with
  | v x => exact Rd.v.2 (Rd.v.1 h)
  | sl rs => exact ⟨h, by simp⟩
  | p cs => exact h
  | f fn caps => trivial

/-- Loads through a pointer that is read alone. -/
theorem op_load_p {o : Oper} {t : Nat} {ty : TypeId} {x : Operand} {cs : List D} {d : D} {N : St → Prop} (ho : o.op = .load ty x) (hd : o.dst = some t) (ht : Nat.blt t σ.n = true) (h0 : (σ.slots t).noOw = true)
    (hx : σ.ev x = .one (.d (.p cs))) (hc : cs[0]? = some d) (hag : aggB P ty = some false) (hN : N (σ.put t (.one (.d d)))) : OpW P o N σ := by
  refine OpW_put hd ht h0 (fun K w I g tm hi => ?_) hN
  obtain ⟨pl, hr, _, _⟩ := hi.ev_one hx
  obtain ⟨b, of, vs, e, hca, hall⟩ := Rd.p_iff.1 hr
  obtain ⟨u, hu, hru⟩ := hall.get hc
  have h1 := hca.2 0 u hu
  have hone := hru.oneCell
  refine ⟨u, ?_, hone, fun i c' hi' => ?_⟩
  · rw [Nat.add_zero] at h1
    simp [execOp, ho, e, Instr.loadAt, Instr.sureAddr, run_loadVar_one hag h1]
  · cases i with
    | succ i => simp [SV.cells] at hi'
    | zero =>
      simp [SV.cells] at hi'
      subst hi'
      exact ⟨u, by revert hone; cases u <;> simp [Value.oneCell', valCells, Value.cells], hru⟩
theorem op_load_vp {o : Oper} {t : Nat} {ty : TypeId} {x : Operand} {p : Pl} {cs : List D} {d : D} {N : St → Prop} (ho : o.op = .load ty x) (hd : o.dst = some t) (ht : Nat.blt t σ.n = true) (h0 : (σ.slots t).noOw = true)
    (hx : σ.ev x = .one (.vp p cs)) (hc : cs[0]? = some d) (hag : aggB P ty = some false) (hN : N (σ.put t (.one (d.inV p)))) : OpW P o N σ := by
  refine OpW_put hd ht h0 (fun K w I g tm hi => ?_) hN
  obtain ⟨pl, hr, _, _⟩ := hi.ev_one hx
  obtain ⟨b, of, vs, e, hca, hall⟩ := Rd.p_iff.1 hr
  obtain ⟨u, hu, hru⟩ := hall.get hc
  have h1 := hca.2 0 u hu
  have hone := hru.oneCell
  refine ⟨u, ?_, hone, fun i c' hi' => ?_⟩
  · rw [Nat.add_zero] at h1
    simp [execOp, ho, e, Instr.loadAt, Instr.sureAddr, run_loadVar_one hag h1]
  · cases i with
    | succ i => simp [SV.cells] at hi'
    | zero =>
      simp [SV.cells] at hi'
      subst hi'
      exact ⟨u, by revert hone; cases u <;> simp [Value.oneCell', valCells, Value.cells], CR.inV hru⟩
theorem load_agg_aux {w : World} {S : Nat → Prop} {b o n : Nat} {cs : List D} {vs : List Value} (hca : CellsAt w S b o vs) (hall : All2 (Rd w S) cs vs) (hl : n ≤ cs.length) :
    (vs.take n).length = n ∧ (∀ j u, (vs.take n)[j]? = some u → w.cell? ⟨b, o + j, none⟩ = some u) ∧ ∀ (i : Nat) (d : D), (cs.take n)[i]? = some d → ∃ u, (vs.take n)[i]? = some u ∧ Rd w S d u := by
  have := hall.length
  refine ⟨by simp; omega, fun j u h => ?_, fun i d h => (hall.take n).get h⟩
  rw [List.getElem?_take] at h
  split at h
  · exact hca.2 j u h
  · cases h
theorem op_load_p_agg {o : Oper} {t n : Nat} {ty : TypeId} {x : Operand} {cs : List D} {N : St → Prop} (ho : o.op = .load ty x) (hd : o.dst = some t) (ht : Nat.blt t σ.n = true) (h0 : (σ.slots t).noOw = true)
    (hx : σ.ev x = .one (.d (.p cs))) (hag : aggB P ty = some true) (hsz : sizeB P ty = some n) (hl : n ≤ cs.length) (hN : N (σ.put t (.ag ((cs.take n).map .d)))) : OpW P o N σ := by
  refine OpW_put hd ht h0 (fun K w I g tm hi => ?_) hN
  obtain ⟨pl, hr, _, _⟩ := hi.ev_one hx
  obtain ⟨b, of, vs, e, hca, hall⟩ := Rd.p_iff.1 hr
  obtain ⟨q1, q2, q3⟩ := load_agg_aux hca hall hl
  refine ⟨.agg (vs.take n).toArray, ?_, ⟨_, rfl, by have := hall.length; simp; omega⟩, fun i c hc => ?_⟩
  · simp only [execOp, ho, e, Instr.loadAt, Instr.sureAddr, Sem.run_bind, Sem.run_pure, Result.andThen_ok, run_loadVar_agg hag hsz q1 q2]
  · simp only [SV.cells, List.getElem?_map, Option.map_eq_some_iff] at hc
    obtain ⟨d, hd, rfl⟩ := hc
    obtain ⟨u, hu, hru⟩ := q3 i d hd
    exact ⟨u, by simpa [valCells, Value.cells] using hu, hru⟩
theorem op_load_vp_agg {o : Oper} {t n : Nat} {ty : TypeId} {x : Operand} {p : Pl} {cs : List D} {N : St → Prop} (ho : o.op = .load ty x) (hd : o.dst = some t) (ht : Nat.blt t σ.n = true) (h0 : (σ.slots t).noOw = true)
    (hx : σ.ev x = .one (.vp p cs)) (hag : aggB P ty = some true) (hsz : sizeB P ty = some n) (hl : n ≤ cs.length) (hN : N (σ.put t (.ag ((cs.take n).map (D.inV p))))) : OpW P o N σ := by
  refine OpW_put hd ht h0 (fun K w I g tm hi => ?_) hN
  obtain ⟨pl, hr, _, _⟩ := hi.ev_one hx
  obtain ⟨b, of, vs, e, hca, hall⟩ := Rd.p_iff.1 hr
  obtain ⟨q1, q2, q3⟩ := load_agg_aux hca hall hl
  refine ⟨.agg (vs.take n).toArray, ?_, ⟨_, rfl, by have := hall.length; simp; omega⟩, fun i c hc => ?_⟩
  · simp only [execOp, ho, e, Instr.loadAt, Instr.sureAddr, Sem.run_bind, Sem.run_pure, Result.andThen_ok, run_loadVar_agg hag hsz q1 q2]
  · simp only [SV.cells, List.getElem?_map, Option.map_eq_some_iff] at hc
    obtain ⟨d, hd, rfl⟩ := hc
    obtain ⟨u, hu, hru⟩ := q3 i d hd
    exact ⟨u, by simpa [valCells, Value.cells] using hu, CR.inV hru⟩

/-- The address of a field. -/
theorem run_fieldAt {s : TypeId} {f off : Nat} (h : fieldOff P s f = some off) (w : World) (b o : Nat) : (Instr.fieldAt s (.pointer (some ⟨b, o, none⟩)) f).run P w = .ok (.pointer (some ⟨b, o + off, none⟩)) w := by
  unfold fieldOff at h
  cases hu : P.underlying s with
  | none => simp [hu] at h
  | some d =>
    cases d with
    | struct fs =>
      simp only [hu] at h
      cases hf : fs[f]? with
      | none => simp [hf] at h
      | some fld =>
        simp only [hf] at h
        cases hs : sizeB P fld.type with
        | none => simp [hs] at h
        | some n =>
          cases n with
          | zero => simp [hs] at h
          | succ n =>
            simp [hs] at h
            subst h
            simp [Instr.fieldAt, run_underlying hu, hf, Instr.sureAddr, fieldPlace, run_sizeB hs, addr_add]
    | _ => simp [hu] at h
theorem one_cell {s : C} {i : Nat} {c : C} (h : (SV.one s).cells[i]? = some c) : i = 0 ∧ c = s := by
  cases i with
  | zero => simp [SV.cells] at h; exact ⟨rfl, h.symm⟩
  | succ i => simp [SV.cells] at h

theorem op_faddr_bp {o : Oper} {t f off : Nat} {ty : TypeId} {x : Operand} {bx c : Nat} {N : St → Prop} (ho : o.op = .fieldAddr ty x f) (hd : o.dst = some t) (ht : Nat.blt t σ.n = true) (h0 : (σ.slots t).noOw = true)
    (hx : σ.ev x = .one (.bp bx c)) (hf : fieldOff P ty f = some off) (hN : N (σ.put t (.one (.bp bx (c + off))))) : OpW P o N σ := by
  refine OpW_put hd ht h0 (fun K w I g tm hi => ?_) hN
  obtain ⟨pl, hr, _, _⟩ := hi.ev_one hx
  refine ⟨.pointer (some ⟨(g.addr bx).1, (g.addr bx).2 + c + off, none⟩), ?_, rfl, fun i c' hc' => ?_⟩
  · have e : Act.eval ⟨tm, []⟩ x = .pointer (some ⟨(g.addr bx).1, (g.addr bx).2 + c, none⟩) := hr.1
    simp [execOp, ho, e, run_fieldAt hf]
  · obtain ⟨rfl, rfl⟩ := one_cell hc'
    exact ⟨_, rfl, by rw [Nat.add_assoc], hr.2⟩
theorem Rd.p_drop {w : World} {S : Nat → Prop} {cs : List D} {b o off : Nat} (h : Rd w S (.p cs) (.pointer (some ⟨b, o, none⟩))) : Rd w S (.p (cs.drop off)) (.pointer (some ⟨b, o + off, none⟩)) := by
  obtain ⟨b', o', vs, e, hca, hall⟩ := Rd.p_iff.1 h
  cases e
  refine Rd.p_iff.2 ⟨b, o + off, vs.drop off, rfl, ⟨hca.1, fun j u hu => ?_⟩, hall.drop off⟩
  rw [List.getElem?_drop] at hu
  rw [Nat.add_assoc]
  exact hca.2 _ u hu
theorem op_faddr_p {o : Oper} {t f off : Nat} {ty : TypeId} {x : Operand} {cs : List D} {N : St → Prop} (ho : o.op = .fieldAddr ty x f) (hd : o.dst = some t) (ht : Nat.blt t σ.n = true) (h0 : (σ.slots t).noOw = true)
    (hx : σ.ev x = .one (.d (.p cs))) (hf : fieldOff P ty f = some off) (hN : N (σ.put t (.one (.d (.p (cs.drop off)))))) : OpW P o N σ := by
  refine OpW_put hd ht h0 (fun K w I g tm hi => ?_) hN
  obtain ⟨pl, hr, _, _⟩ := hi.ev_one hx
  obtain ⟨b, of, vs, e, hca, hall⟩ := Rd.p_iff.1 hr
  have hr' : Rd w I (.p cs) (.pointer (some ⟨b, of, none⟩)) := by rw [← e]; exact hr
  refine ⟨.pointer (some ⟨b, of + off, none⟩), ?_, rfl, fun i c' hc' => ?_⟩
  · simp [execOp, ho, e, run_fieldAt hf]
  · obtain ⟨rfl, rfl⟩ := one_cell hc'
    exact ⟨_, rfl, hr'.p_drop⟩
theorem op_faddr_vp {o : Oper} {t f off : Nat} {ty : TypeId} {x : Operand} {p : Pl} {cs : List D} {N : St → Prop} (ho : o.op = .fieldAddr ty x f) (hd : o.dst = some t) (ht : Nat.blt t σ.n = true) (h0 : (σ.slots t).noOw = true)
    (hx : σ.ev x = .one (.vp p cs)) (hf : fieldOff P ty f = some off) (hN : N (σ.put t (.one (.vp p (cs.drop off))))) : OpW P o N σ := by
  refine OpW_put hd ht h0 (fun K w I g tm hi => ?_) hN
  obtain ⟨pl, hr, _, _⟩ := hi.ev_one hx
  obtain ⟨b, of, vs, e, hca, hall⟩ := Rd.p_iff.1 hr
  have hr' : Rd w (fun b => I b ∨ b ∈ g.L p) (.p cs) (.pointer (some ⟨b, of, none⟩)) := by rw [← e]; exact hr
  refine ⟨.pointer (some ⟨b, of + off, none⟩), ?_, rfl, fun i c' hc' => ?_⟩
  · simp [execOp, ho, e, run_fieldAt hf]
  · obtain ⟨rfl, rfl⟩ := one_cell hc'
    exact ⟨_, rfl, hr'.p_drop⟩

/-- The address of an element, to be read. -/
theorem run_indexAt {ty e : TypeId} {size b o len cap i : Nat} {k : IntKind} (hty : P.underlying ty = some (.slice e)) (hs : sizeB P e = some size) (h : i < len) (w : World) :
    (Instr.indexAt ty (.slice (some ⟨b, o, none⟩) len cap) (.int k i)).run P w = .ok (.pointer (some ⟨b, o + i * size, none⟩)) w := by
  simp [Instr.indexAt, asIntOf, run_underlying hty, h, run_sizeB hs, addr_add]
theorem Rd.sl_at {w : World} {S : Nat → Prop} {rs : List (List D)} {u : Value} {i size : Nat} (h : Rd w S (.sl rs) u) (hi : i < rs.length) (hl : (rs.getD i []).length = size) :
    ∃ b o len cap, u = .slice (some ⟨b, o, none⟩) len cap ∧ len = rs.length ∧ Rd w S (.p (rs.getD i [])) (.pointer (some ⟨b, o + i * size, none⟩)) := by
  obtain ⟨A, cap, rfl, h1, h2, h3⟩ := Rd.sl_iff.1 h
  have hrow : rs[i]? = some (rs.getD i []) := by simp [List.getElem?_eq_getElem hi]
  obtain ⟨b, o, vs, rfl, hca, hall⟩ := h3 i _ hrow
  rw [hl] at hca
  exact ⟨b, o, _, cap, rfl, rfl, Rd.p_iff.2 ⟨b, _, vs, rfl, hca, hall⟩⟩
theorem op_index_d {o : Oper} {t size : Nat} {ty e : TypeId} {x y : Operand} {rs : List (List D)} {k : IntKind} {i : Int} {N : St → Prop} (ho : o.op = .indexAddr ty x y) (hd : o.dst = some t) (ht : Nat.blt t σ.n = true) (h0 : (σ.slots t).noOw = true)
    (hty : P.underlying ty = some (.slice e)) (hs : sizeB P e = some size) (hx : σ.ev x = .one (.d (.sl rs))) (hy : σ.ev y = .one (.d (.v (.int k i)))) (hi0 : 0 ≤ i) (hi1 : i < rs.length) (hl : (rs.getD i.toNat []).length = size)
    (hN : N (σ.put t (.one (.d (.p (rs.getD i.toNat [])))))) : OpW P o N σ := by
  refine OpW_put hd ht h0 (fun K w I g tm hi => ?_) hN
  obtain ⟨pl, hr, _, _⟩ := hi.ev_one hx
  obtain ⟨b, of, len, cap, e1, e2, h3⟩ := Rd.sl_at hr (i := i.toNat) (by omega) hl
  have ey := hi.ev_v hy
  obtain ⟨n, rfl⟩ := Int.eq_ofNat_of_zero_le hi0
  refine ⟨.pointer (some ⟨b, of + n * size, none⟩), ?_, rfl, fun i c' hc' => ?_⟩
  · have := run_indexAt (k := k) (b := b) (o := of) (cap := cap) hty hs (show n < len by omega) w
    simp [execOp, ho, e1, ey, this]
  · obtain ⟨rfl, rfl⟩ := one_cell hc'
    exact ⟨_, rfl, h3⟩
theorem op_index_vp {o : Oper} {t size : Nat} {ty e : TypeId} {x y : Operand} {p : Pl} {wh : Bool} {rs : List (List D)} {k : IntKind} {i : Int} {N : St → Prop} (ho : o.op = .indexAddr ty x y) (hd : o.dst = some t) (ht : Nat.blt t σ.n = true) (h0 : (σ.slots t).noOw = true)
    (hty : P.underlying ty = some (.slice e)) (hs : sizeB P e = some size) (hx : σ.evv x = .one (.vw p wh rs)) (hy : σ.ev y = .one (.d (.v (.int k i)))) (hi0 : 0 ≤ i) (hi1 : i < rs.length) (hl : (rs.getD i.toNat []).length = size)
    (hN : N (σ.put t (.one (.vp p (rs.getD i.toNat []))))) : OpW P o N σ := by
  refine OpW_put hd ht h0 (fun K w I g tm hi => ?_) hN
  obtain ⟨hsh, hcs⟩ := hi.evv x hx
  obtain ⟨_, u, hu, hr⟩ := hcs 0 _ rfl
  have h1 : (Act.eval ⟨tm, []⟩ x).oneCell' = true := hsh
  have hv : valCells (Act.eval ⟨tm, []⟩ x) = [Act.eval ⟨tm, []⟩ x] := by
    revert h1
    cases Act.eval ⟨tm, []⟩ x <;> simp [Value.oneCell', valCells, Value.cells]
  rw [hv] at hu
  simp at hu
  subst hu
  have hr := hr ⟨false, 0, 0⟩
  obtain ⟨b, of, len, cap, e1, e2, h3⟩ := Rd.sl_at hr.1 (i := i.toNat) (by omega) hl
  have ey := hi.ev_v hy
  obtain ⟨n, rfl⟩ := Int.eq_ofNat_of_zero_le hi0
  refine ⟨.pointer (some ⟨b, of + n * size, none⟩), ?_, rfl, fun i c' hc' => ?_⟩
  · have := run_indexAt (k := k) (b := b) (o := of) (cap := cap) hty hs (show n < len by omega) w
    simp [execOp, ho, e1, ey, this]
  · obtain ⟨rfl, rfl⟩ := one_cell hc'
    exact ⟨_, rfl, h3⟩

/-- A pointer that is not nil. -/
def C.isPtr : C → Bool
  | .d (.p _) | .bp .. | .ep .. | .vp .. => true
  | _ => false
theorem op_nilCheck {o : Oper} {t : Nat} {x : Operand} {c : C} {N : St → Prop} (ho : o.op = .nilCheck x) (hd : o.dst = some t) (ht : Nat.blt t σ.n = true) (h0 : (σ.slots t).noOw = true)
    (hx : σ.ev x = .one c) (hc : c.isPtr = true) (hN : N (σ.put t (.one c))) : OpW P o N σ := by
  refine OpW_put hd ht h0 (fun K w I g tm hi => ?_) hN
  obtain ⟨pl, hr, h1, _⟩ := hi.ev_one hx
  have hp : ∃ a, Act.eval ⟨tm, []⟩ x = .pointer (some a) := by
    cases c with
    | d d => cases d <;> simp [C.isPtr] at hc; obtain ⟨b, of, vs, e, _⟩ := Rd.p_iff.1 hr; exact ⟨_, e⟩
    | bp bx c => exact ⟨_, hr.1⟩
    | ep p i j => obtain ⟨b, n, cap, e, size, k, rs, _, _, _, e'⟩ := hr; exact ⟨_, e'⟩
    | vp p cs => obtain ⟨b, of, vs, e, _⟩ := Rd.p_iff.1 hr; exact ⟨_, e⟩
    | _ => simp [C.isPtr] at hc
  have how : c.isOw = false := by cases c <;> first | rfl | simp [C.isPtr] at hc
  obtain ⟨a, ha⟩ := hp
  refine ⟨.pointer (some a), by simp [execOp, ho, ha], rfl, fun i c' hc' => ?_⟩
  obtain ⟨rfl, rfl⟩ := one_cell hc'
  rw [ha] at hr
  exact ⟨.pointer (some a), by simp [valCells, Value.cells], hr.pl how⟩

end Go.AX
