/- A part of the proof of the statement in the row text. -/
import Derived.Test.YtkpohcfohnmejaaGreatDoorLxRows
/- Literals of slices, make, stores into elements, what is made fixed. -/
set_option linter.unusedVariables false
set_option linter.unusedSimpArgs false
namespace Go.LX

variable {P : Program} {σ : St}

/-! ### Ghost steps -/
theorem OpW.weak [Glob] {o : Oper} {N : St → Prop} {σ' : St} (hw : Wk σ σ') (h : OpW P o N σ') : OpW P o N σ := fun K w I g tm hi => let ⟨I', g', h1⟩ := hw K w I g tm hi; h K w I' g' tm h1
theorem Wk_freeze [Glob] {o : Nat} {e : TypeId} {t : Ty} {dp : Bool} {xs : List t.T} (ho : σ.objs o = some (.rows e t dp xs)) : Wk σ (σ.setO o (.fz t dp xs)) := fun _ _ _ _ _ hi => ⟨_, _, hi.freeze ho⟩
theorem Wk_shallow [Glob] {o : Nat} {e : TypeId} {t : Ty} {dp : Bool} {xs : List t.T} (ho : σ.objs o = some (.rows e t dp xs)) : Wk σ (σ.setO o (.rows e t false xs)) := fun _ _ _ _ _ hi => ⟨_, _, hi.shallow ho⟩

/-! ### Literals of slices -/
theorem fillC_len {size : Nat} : ∀ {ps : List (Nat × List C)} {c0 c1 : List C}, fillC (fun i => some (i * size, size)) c0 ps = some c1 → c1.length = c0.length
  | [], c0, c1, h => by simp [fillC] at h; rw [h]
  | (i, c) :: ps, c0, c1, h => by
    unfold fillC at h
    simp only at h
    cases hq : (Nat.beq c.length size && Nat.ble (i * size + size) c0.length) with
    | false => rw [hq] at h; cases h
    | true =>
      rw [hq] at h
      obtain ⟨q1, q2⟩ := Bool.and_eq_true_iff.1 hq
      have q1 := Nat.eq_of_beq_eq_true q1
      have q2 := Nat.le_of_ble_eq_true q2
      rw [fillC_len h]
      simp only [List.length_append, List.length_take, List.length_drop]
      omega
/-- A literal's cells. -/
def litC (P : Program) (ev : Operand → SV) (ty : TypeId) (len : Nat) (parts : Array (Nat × Operand)) : Option (TypeId × Nat × List C) :=
  (elemB P ty).bind fun e => (sizeB P e).bind fun size => (zeroB P e).bind fun zs => (partsC ev parts.toList).bind fun ps =>
    bif plainZ zs && Nat.beq zs.length size && Nat.ble (len * size) 16777216 && Nat.ble len 16777216 then (fillC (fun i => some (i * size, size)) (List.replicate (len * size) .any) ps).map fun cs => (e, size, cs) else none
theorem litC_run [Glob] {o : Oper} {ty : TypeId} {len : Nat} {parts : Array (Nat × Operand)} {e : TypeId} {size : Nat} {cs : List C} (ho : o.op = .buildSlice ty len parts) (h : litC P σ.ev ty len parts = some (e, size, cs)) {K : Ctx} {w : World} {I : Nat → Prop} {g : Gh} {tm : Array Value} (hi : Inv K w I g σ tm) :
    cs.length = len * size ∧ len ≤ maxLen ∧ P.underlying ty = some (.slice e) ∧ ∃ us : Array Value, (execOp (Act.eval ⟨tm, []⟩) o).run P w = .ok (.value (.slice (some ⟨w.heap.size, 0, none⟩) len len)) (w.alloc (.cells us e)) ∧ us.size = cs.length ∧ ∀ (j : Nat) (c : C), cs[j]? = some c → ∃ u, us[j]? = some u ∧ u.oneCell' = true ∧ CR w I g σ.objs c u := by
  simp only [litC, Option.bind_eq_some_iff] at h
  obtain ⟨e', he, size', hsz, zs, hz, ps, hps, h⟩ := h
  cases hb : (plainZ zs && Nat.beq zs.length size' && Nat.ble (len * size') 16777216 && Nat.ble len 16777216) with
  | false => rw [hb] at h; cases h
  | true =>
    rw [hb] at h
    simp only [cond_true, Option.map_eq_some_iff, Prod.mk.injEq] at h
    obtain ⟨cs', hf, rfl, rfl, rfl⟩ := h
    simp only [Bool.and_eq_true] at hb
    obtain ⟨⟨⟨hp, hzl⟩, hsm⟩, hml⟩ := hb
    have hsm := Nat.le_of_ble_eq_true hsm
    have hml := Nat.le_of_ble_eq_true hml
    have hzl := Nat.eq_of_beq_eq_true hzl
    have hcl : cs'.length = len * size' := by rw [fillC_len hf]; simp
    refine ⟨hcl, by simp only [maxLen]; omega, elemB_ok he, ?_⟩
    unfold zeroB at hz
    cases hinf : P.info? e' with
    | none => simp [hinf] at hz
    | some inf =>
      cases hzz : inf.zero with
      | none => simp [hinf, hzz] at hz
      | some z =>
        simp [hinf, hzz] at hz
        have hzs : z.cells.size = size' := by rw [← hzl, ← hz]; simp
        have hc0 : CellsR (fun c u => u.oneCell' = true ∧ CR w I g σ.objs c u) (List.replicate (len * size') .any) ((Array.range (len * size')).map ((if len * size' = 0 then #[] else z.cells)[· % (if len * size' = 0 then #[] else z.cells).size]!)) := by
          refine ⟨by simp, fun j c hj => ?_⟩
          have hlt := (List.getElem?_eq_some_iff.1 hj).1
          simp at hlt
          rw [List.getElem?_replicate, if_pos hlt] at hj
          cases hj
          have hne : ¬ len * size' = 0 := by omega
          have hpos : 0 < size' := by
            rcases Nat.eq_zero_or_pos size' with h | h
            · subst h; simp at hlt
            · exact h
          have hm : j % z.cells.size < z.cells.size := Nat.mod_lt _ (by omega)
          refine ⟨z.cells[j % z.cells.size]!, by simp [hlt, hne], ?_, trivial⟩
          rw [getElem!_pos z.cells _ hm]
          exact List.all_eq_true.1 hp _ (by rw [← hz]; simp)
        have hpm : (parts.map fun x => (x.1, Act.eval ⟨tm, []⟩ x.2)).toList = parts.toList.map fun x => (x.1, Act.eval ⟨tm, []⟩ x.2) := by simp
        obtain ⟨us, hfill, hus⟩ := fill_rel hf hc0 (parts_rel hi hps)
        refine ⟨us, ?_, hus.1, hus.2⟩
        have hrun : (Instr.buildSlice ty len (parts.map fun x => (x.1, Act.eval ⟨tm, []⟩ x.2))).run P w = .ok (.slice (some ⟨w.heap.size, 0, none⟩) len len) (w.alloc (.cells us e')) := by
          unfold Instr.buildSlice
          simp only [Sem.run_bind, run_underlying (elemB_ok he), Result.andThen_ok, run_sizeB hsz]
          rw [if_neg (Nat.not_lt.2 (show len * size' ≤ 2 ^ 24 from hsm))]
          by_cases hzero : len * size' = 0
          · rw [if_pos hzero] at hfill ⊢
            simp only [Sem.run_bind, Sem.run_pure, Result.andThen_ok, hpm]
            rw [hfill]
            simp [newRow]
          · rw [if_neg hzero] at hfill ⊢
            simp only [Sem.run_bind, Sem.run_pure, run_zeroV hinf hzz, Result.andThen_ok, hpm]
            rw [hfill]
            simp [newRow]
        simp only [execOp, ho, Sem.run_bind, hrun, Result.andThen_ok]; rfl
/-- Written out. -/
theorem op_litC [Glob] {o : Oper} {t id len size : Nat} {ty e : TypeId} {parts : Array (Nat × Operand)} {cs : List C} {N : St → Prop} (ho : o.op = .buildSlice ty len parts) (hd : o.dst = some t) (ht : Nat.blt t σ.n = true) (h : litC P σ.ev ty len parts = some (e, size, cs)) (hid : newO σ.objs t = some id)
    (hN : N ((σ.setO id (.cells cs)).put t (.one (.rf id (.as size len e))))) : OpW P o N σ := by
  refine OpW_obj (σ' := σ.setO id (.cells cs)) hd ht rfl (fun K w I g tm hi => ?_) hN
  obtain ⟨h1, h2, h3, us, hrun, hul, hus⟩ := litC_run ho h hi
  refine ⟨_, _, I, _, hrun, hi.allocCells (newO_ok hid) hus, shape_one rfl ?_⟩
  show seeO _ _ _ _ _ ((σ.setO _ _).objs _) _ _
  rw [St.setO_same, Gh.setO_eq.1]
  exact ⟨rfl, h1, h2⟩
/-- As rows. -/
theorem op_litR [Glob] {o : Oper} {t' id len : Nat} {ty e : TypeId} {parts : Array (Nat × Operand)} {cs : List C} (t : Ty) (dp : Bool) {xs : List t.T} {N : St → Prop} (ho : o.op = .buildSlice ty len parts) (hd : o.dst = some t') (ht : Nat.blt t' σ.n = true) (h : litC P σ.ev ty len parts = some (e, t.w, cs)) (hm : mkRows σ.objs t len cs = some xs) (hk : (t.flat || (!dp || Nat.beq len 0)) = true)
    (hid : newO σ.objs t' = some id) (hN : N ((σ.setO id (.rows e t dp xs)).put t' (.one (.rf id .ar)))) : OpW P o N σ := by
  refine OpW_obj (σ' := σ.setO id (.rows e t dp xs)) hd ht rfl (fun K w I g tm hi => ?_) hN
  obtain ⟨h1, h2, h3, us, hrun, hul, hus⟩ := litC_run ho h hi
  obtain ⟨q1, q2⟩ := mkRows_ok hi (us := us.toList) hm (by simpa using hul) fun j c hj => by
    obtain ⟨u, hu, _, hr⟩ := hus j c hj
    exact ⟨u, by simpa using hu, hr⟩
  have hB := Below.allocW w (.cells us e)
  have hg := hi.grow hB
  have hown := World.ownsRow_lit (base := 0) (e := e) (size := t.w) w us len (Nat.zero_le _) h2 (by rw [hul, h1])
  have hrr : Rows (RR (w.alloc (.cells us e)) I dp t) xs us.toList [] := by
    have hq : Rows (fun x u L => L = [] ∧ RT (w.alloc (.cells us e)) I t x u) xs us.toList [] := q2.mono fun x u L1 _ _ h => ⟨h.1, h.2.kept (fun _ h => h) fun b hb o => cell_block (hB.block b (hi.immX b hb).1) o⟩
    cases hf : t.flat with
    | true => exact rows_RR hq (.inl hf)
    | false =>
      rw [hf] at hk
      simp only [Bool.false_or, Bool.or_eq_true, Bool.not_eq_true'] at hk
      rcases hk with hk | hk
      · exact rows_RR hq (.inr ⟨hk, fun _ h => h⟩)
      · have hl0 := Nat.eq_of_beq_eq_true hk
        have : xs = [] := List.eq_nil_of_length_eq_zero (by rw [q1, hl0])
        subst this
        exact q2
  have hnew := hg.newRows (o := id) (e := e) (dp := dp) (v := .slice (some ⟨w.heap.size, 0, none⟩) len len) (L := [w.heap.size]) (newO_ok hid).1 (fun v hv => absurd hv ((hg.noE' (newO_ok hid).2).2 v)) (hg.noE' (newO_ok hid).2).1 (by simp) (fun b hb => by simp at hb; subst hb; exact free_new hi (Nat.le_refl _)) ⟨us.toList, [], by rw [q1]; exact .of hown, hrr, by simp [Value.ownBlock]⟩
  refine ⟨_, _, I, _, hrun, hnew, shape_one rfl ?_⟩
  show seeO _ _ _ _ _ ((σ.setO _ _).objs _) _ _
  rw [St.setO_same, Gh.setO_eq.2.1]
  rfl

/-! ### make -/
theorem flat_row : ∀ {α : Type} {rs : List (List α)} {size i : Nat} {row : List α}, (∀ r ∈ rs, r.length = size) → rs[i]? = some row → (rs.flatten.drop (i * size)).take size = row
  | α, r :: rs, size, 0, row, h, hr => by
    simp at hr; subst hr
    have := h r (by simp)
    simp [List.take_append_of_le_length (Nat.le_of_eq this.symm), List.take_of_length_le (Nat.le_of_eq this)]
  | α, r :: rs, size, i + 1, row, h, hr => by
    have hl := h r (by simp)
    have e : (i + 1) * size = r.length + i * size := by rw [hl, Nat.add_mul, Nat.one_mul, Nat.add_comm]
    rw [List.flatten_cons, e, List.drop_append]
    simp only [Nat.add_sub_cancel_left, List.drop_eq_nil_of_le (Nat.le_add_right _ _), List.nil_append]
    exact flat_row (fun r hr => h r (by simp [hr])) (by simpa using hr)
  | α, [], _, _, _, _, hr => by simp at hr
theorem flat_len {α : Type} : ∀ {rs : List (List α)} {size : Nat}, (∀ r ∈ rs, r.length = size) → rs.flatten.length = rs.length * size
  | [], size, _ => by simp
  | r :: rs, size, h => by
    rw [List.flatten_cons, List.length_append, flat_len (fun r hr => h r (by simp [hr])), h r (by simp), List.length_cons, Nat.add_mul, Nat.one_mul, Nat.add_comm]
theorem made_eq {z : Value} {zs : List Value} {n size : Nat} (hz : z.cells.toList = zs) (hzl : zs.length = size) : (madeCells z.cells (n * size)).toList = (List.replicate n zs).flatten := by
  have hzc : z.cells.size = size := by rw [← hzl, ← hz]; simp
  have hfl : ∀ r ∈ List.replicate n zs, r.length = size := fun r hr => by rw [List.eq_of_mem_replicate hr]; exact hzl
  apply List.ext_getElem?
  intro j
  by_cases hj : j < n * size
  · have hs0 : 0 < size := by
      rcases Nat.eq_zero_or_pos size with h | h
      · rw [h] at hj; simp at hj
      · exact h
    have hq : j / size < n := Nat.div_lt_of_lt_mul (by rw [Nat.mul_comm]; exact hj)
    have hm : j % size < size := Nat.mod_lt _ hs0
    have hrowq : (List.replicate n zs)[j / size]? = some zs := by rw [List.getElem?_replicate, if_pos hq]
    have := flat_row hfl hrowq
    have h2 : (List.replicate n zs).flatten[j]? = zs[j % size]? := by
      have t2 : (((List.replicate n zs).flatten.drop (j / size * size)).take size)[j % size]? = zs[j % size]? := by rw [this]
      rw [List.getElem?_take, if_pos hm, List.getElem?_drop, Nat.mul_comm, Nat.div_add_mod] at t2
      exact t2
    rw [h2, ← hz]
    have hms : j % z.cells.size < z.cells.size := by rw [hzc]; exact hm
    simp [madeCells, hj, hzc, hm, getElem!_pos, hms]
  · have h1 : (madeCells z.cells (n * size)).toList.length ≤ j := by simp [madeCells]; omega
    have h2 : (List.replicate n zs).flatten.length ≤ j := by rw [flat_len hfl]; simp; omega
    rw [List.getElem?_eq_none h1, List.getElem?_eq_none h2]
/-- A zero row of any type: nothing of it lies in memory. -/
theorem op_make [Glob] {o : Oper} {t' id bytes : Nat} {ty e : TypeId} {x y : Operand} {k k' : IntKind} {n : Int} (t : Ty) {z0 : t.T} {zs : List Value} {N : St → Prop} (ho : o.op = .makeSlice ty x y) (hd : o.dst = some t') (ht : Nat.blt t' σ.n = true) (hT : tyB P ty e t.w bytes = true) (hx : σ.ev x = .one (.d (.i k) n)) (hy : σ.ev y = .one (.d (.i k') n))
    (hz : zeroB P e = some zs) (hzt : mkT σ.objs t (zs.map C.ofZ) = some z0) (hfl : t.flat = true) (hid : newO σ.objs t' = some id) (h0 : 0 ≤ n) (hbd : n * bytes ≤ 281474976710656) (hml : n ≤ 9223372036854775807)
    (hN : N ((σ.setO id (.rows e t true (List.replicate n.toNat z0))).put t' (.one (.rf id .ar)))) : OpW P o N σ := by
  refine OpW_obj (σ' := σ.setO id (.rows e t true (List.replicate n.toNat z0))) hd ht rfl (fun K w I g tm hi => ?_) hN
  have hT := tyB_ok hT
  obtain ⟨m, rfl⟩ := Int.eq_ofNat_of_zero_le h0
  simp only [Int.toNat_natCast]
  obtain ⟨zs', hz', hzl⟩ := hT.z
  rw [hz] at hz'
  cases hz'
  have hzr := hz
  unfold zeroB at hz
  cases hinf : P.info? e with
  | none => simp [hinf] at hz
  | some inf =>
    cases hzz : inf.zero with
    | none => simp [hinf, hzz] at hz
    | some z =>
      simp [hinf, hzz] at hz
      have hsz' : inf.size = t.w := by simpa [sizeB, hinf] using hT.sz
      have hb' : inf.bytes = bytes := by simpa [hinf] using hT.by_
      obtain ⟨w', hr, ho', hg⟩ := run_make_full (P := P) w 0 ty e inf z t.w hT.ty hinf hzz hsz' k k' m (by rw [hb', Nat.mul_comm]; exact Int.ofNat_le.1 (by rw [Int.natCast_mul]; exact hbd)) (by show m ≤ 2 ^ 63 - 1; omega) (Nat.zero_le _)
      rw [made_eq hz hzl] at ho'
      have hgr := (Grow.of_grownBy hg).mono (T' := fun _ => False) fun b hb => by cases hb
      have hi' := hi.scrib hgr fun _ h => h.elim
      have hrow : RT w I t z0 zs := mkT_ok hi hzt (by simp) fun j c hj => by
        simp only [List.getElem?_map, Option.map_eq_some_iff] at hj
        obtain ⟨v, hv, rfl⟩ := hj
        exact ⟨v, hv, CR.ofZ⟩
      have hrows : ∀ m, Rows (RR w' I true t) (List.replicate m z0) (List.replicate m zs).flatten [] := by
        intro m
        induction m with
        | zero => exact ⟨rfl, rfl⟩
        | succ m ih => exact ⟨zs, _, [], [], by simp [List.replicate_succ], rfl, RT.ot hfl hrow, ih⟩
      have hge : w.heap.size < w'.heap.size := (ho'.lt w.heap.size rfl).2
      have hnew := hi'.newRows (o := id) (e := e) (dp := true) (v := .slice (some ⟨w.heap.size, 0, none⟩) m m) (L := [w.heap.size]) (newO_ok hid).1 (fun v hv => absurd hv ((hi'.noE' (newO_ok hid).2).2 v)) (hi'.noE' (newO_ok hid).2).1 (by simp) (fun b hb => by simp at hb; subst hb; exact free_new hi (Nat.le_refl _))
        ⟨_, [], by rw [List.length_replicate]; exact .of ho', hrows m, by simp [Value.ownBlock]⟩
      refine ⟨_, w', I, _, ?_, hnew, shape_one (u := .slice (some ⟨w.heap.size, 0, none⟩) m m) rfl ?_⟩
      · simp only [execOp, ho, Sem.run_bind, hi.ev_i hx, hi.ev_i hy, hr, Result.andThen_ok]; rfl
      · show seeO _ _ _ _ _ ((σ.setO _ _).objs _) _ _
        rw [St.setO_same, Gh.setO_eq.2.1]
        rfl
end Go.LX

/- Stores into elements of owned slices; what is appended with all that it owns. -/
set_option linter.unusedVariables false
set_option linter.unusedSimpArgs false
namespace Go.LX

variable {P : Program} {σ : St}

/-! ### A cell of a datum, told anew -/
def setC (ob : Nat → Option Ob) : (t : Ty) → t.T → Nat → C → Option t.T
  | .pr a b, x, j, c => bif Nat.blt j a.w then (setC ob a x.1 j c).map fun y => (y, x.2) else (setC ob b x.2 (j - a.w) c).map fun y => (x.1, y)
  | .un, _, _, _ => none
  | .i k, _, j, c => bif Nat.beq j 0 then asT ob (.i k) c else none
  | .u8, _, j, c => bif Nat.beq j 0 then asT ob .u8 c else none
  | .bo, _, j, c => bif Nat.beq j 0 then asT ob .bo c else none
  | .st, _, j, c => bif Nat.beq j 0 then asT ob .st c else none
  | .sl e, _, j, c => bif Nat.beq j 0 then asT ob (.sl e) c else none
def setCs (ob : Nat → Option Ob) (t : Ty) : t.T → Nat → List C → Option t.T
  | x, _, [] => some x
  | x, j, c :: cs => (setC ob t x j c).bind fun y => setCs ob t y (j + 1) cs
def slFree (t : Ty) : Nat → Nat → Bool
  | _, 0 => true
  | j, n + 1 => !slAt t j && slFree t (j + 1) n
theorem setC_rt [Glob] {K : Ctx} {w : World} {I : Nat → Prop} {g : Gh} {tm : Array Value} (hi : Inv K w I g σ tm) {c : C} {u : Value} (h : CR w I g σ.objs c u) : ∀ {t : Ty} {x y : t.T} {j : Nat} {us : List Value}, setC σ.objs t x j c = some y → RT w I t x us → RT w I t y (us.set j u) ∧ j < us.length := by
  have one : ∀ {t : Ty} {y : t.T} {j : Nat} {us : List Value}, (bif Nat.beq j 0 then asT σ.objs t c else none) = some y → us.length = 1 → RT w I t y (us.set j u) ∧ j < us.length := by
    intro t y j us hc hl
    cases j with
    | succ j => cases (show (none : Option t.T) = some y from hc)
    | zero =>
      match us, hl with
      | [v], _ => exact ⟨asT_ok hi h hc, by simp⟩
  intro t
  induction t with
  | pr a b iha ihb =>
    intro x y j us hc hr
    obtain ⟨u1, u2, rfl, h1, h2⟩ := hr
    unfold setC at hc
    cases hb : Nat.blt j a.w with
    | true =>
      rw [hb] at hc
      simp only [cond_true, Option.map_eq_some_iff] at hc
      obtain ⟨z, hz, rfl⟩ := hc
      obtain ⟨q1, q2⟩ := iha hz h1
      exact ⟨⟨u1.set j u, u2, by rw [List.set_append_left _ _ q2], q1, h2⟩, by simp; omega⟩
    | false =>
      rw [hb] at hc
      simp only [cond_false, Option.map_eq_some_iff] at hc
      obtain ⟨z, hz, rfl⟩ := hc
      obtain ⟨q1, q2⟩ := ihb hz h2
      have hge : a.w ≤ j := Nat.not_lt.1 fun h => by rw [show Nat.blt j a.w = true from Nat.ble_eq_true_of_le h] at hb; cases hb
      have hl := h1.len
      exact ⟨⟨u1, u2.set (j - a.w) u, by rw [List.set_append_right _ _ (by omega), hl], h1, q1⟩, by simp; omega⟩
  | un => intro x y j us hc; simp [setC] at hc
  | i k => intro x y j us hc hr; exact one hc hr.len
  | u8 => intro x y j us hc hr; exact one hc hr.len
  | bo => intro x y j us hc hr; exact one hc hr.len
  | st => intro x y j us hc hr; exact one hc hr.len
  | sl e _ => intro x y j us hc hr; exact one hc hr.len
theorem setC_ot [Glob] {K : Ctx} {w : World} {I : Nat → Prop} {g : Gh} {tm : Array Value} (hi : Inv K w I g σ tm) {c : C} {u : Value} (h : CR w I g σ.objs c u) : ∀ {t : Ty} {x y : t.T} {j : Nat} {us : List Value} {L : List Nat}, setC σ.objs t x j c = some y → slAt t j = false → OT w t x us L → OT w t y (us.set j u) L ∧ j < us.length := by
  have one : ∀ {t : Ty} {x y : t.T} {j : Nat} {us : List Value} {L : List Nat}, (bif Nat.beq j 0 then asT σ.objs t c else none) = some y → t.flat = true → us.length = 1 → L = [] → OT w t y (us.set j u) L ∧ j < us.length := by
    intro t x y j us L hc hf hl hL
    subst hL
    cases j with
    | succ j => cases (show (none : Option t.T) = some y from hc)
    | zero =>
      match us, hl with
      | [v], _ => exact ⟨RT.ot hf (asT_ok hi h hc), by simp⟩
  intro t
  induction t with
  | pr a b iha ihb =>
    intro x y j us L hc hs hr
    obtain ⟨u1, u2, L1, L2, rfl, rfl, h1, h2⟩ := hr
    unfold setC at hc
    unfold slAt at hs
    cases hb : Nat.blt j a.w with
    | true =>
      rw [hb] at hc hs
      simp only [cond_true, Option.map_eq_some_iff] at hc hs
      obtain ⟨z, hz, rfl⟩ := hc
      obtain ⟨q1, q2⟩ := iha hz hs h1
      exact ⟨⟨u1.set j u, u2, L1, L2, by rw [List.set_append_left _ _ q2], rfl, q1, h2⟩, by simp; omega⟩
    | false =>
      rw [hb] at hc hs
      simp only [cond_false, Option.map_eq_some_iff] at hc hs
      obtain ⟨z, hz, rfl⟩ := hc
      obtain ⟨q1, q2⟩ := ihb hz hs h2
      have hge : a.w ≤ j := Nat.not_lt.1 fun h => by rw [show Nat.blt j a.w = true from Nat.ble_eq_true_of_le h] at hb; cases hb
      have hl := h1.len
      exact ⟨⟨u1, u2.set (j - a.w) u, L1, L2, by rw [List.set_append_right _ _ (by omega), hl], rfl, h1, q1⟩, by simp; omega⟩
  | un => intro x y j us L hc; simp [setC] at hc
  | i k => intro x y j us L hc hs hr; exact one (x := x) hc rfl (OT.len hr) hr.2
  | u8 => intro x y j us L hc hs hr; exact one (x := x) hc rfl (OT.len hr) hr.2
  | bo => intro x y j us L hc hs hr; exact one (x := x) hc rfl (OT.len hr) hr.2
  | st => intro x y j us L hc hs hr; exact one (x := x) hc rfl (OT.len hr) hr.2
  | sl e _ =>
    intro x y j us L hc hs hr
    cases j with
    | zero => simp [slAt] at hs
    | succ j => cases (show (none : Option (Ty.sl e).T) = some y from hc)

/-- Lists of cells, one behind the other, put over a list. -/
def setL {α : Type} : List α → Nat → List α → List α
  | xs, _, [] => xs
  | xs, j, y :: ys => setL (xs.set j y) (j + 1) ys
theorem setL_mid {α : Type} {a c : List α} : ∀ {b : List α} {j : Nat} {ys : List α}, j + ys.length ≤ b.length → setL (a ++ b ++ c) (a.length + j) ys = a ++ setL b j ys ++ c
  | b, j, [], _ => rfl
  | b, j, y :: ys, h => by
    simp only [List.length_cons] at h
    unfold setL
    have e : (a ++ b ++ c).set (a.length + j) y = a ++ b.set j y ++ c := by
      rw [List.append_assoc, List.set_append_right _ _ (by omega), Nat.add_sub_cancel_left, List.set_append_left _ _ (by omega), List.append_assoc]
    rw [e, Nat.add_assoc]
    exact setL_mid (by simp; omega)
theorem setCs_rr [Glob] {K : Ctx} {w : World} {I : Nat → Prop} {g : Gh} {tm : Array Value} (hi : Inv K w I g σ tm) {dp : Bool} {t : Ty} {L : List Nat} : ∀ {cs : List C} {x y : t.T} {j : Nat} {us vs : List Value}, setCs σ.objs t x j cs = some y → (dp = true → slFree t j cs.length = true) → RR w I dp t x us L → vs.length = cs.length → (∀ (i : Nat) (c : C), cs[i]? = some c → ∃ u, vs[i]? = some u ∧ CR w I g σ.objs c u) →
    RR w I dp t y (setL us j vs) L ∧ (0 < cs.length → j + cs.length ≤ us.length)
  | [], x, y, j, us, vs, h, _, hr, hl, _ => by
    obtain rfl := List.eq_nil_of_length_eq_zero hl
    cases h
    exact ⟨hr, fun h => absurd h (by simp)⟩
  | c :: cs, x, y, j, us, [], h, hs, hr, hl, hc => by simp at hl
  | c :: cs, x, y, j, us, v :: vs, h, hs, hr, hl, hc => by
    simp only [setCs, Option.bind_eq_some_iff] at h
    obtain ⟨z, h1, h2⟩ := h
    obtain ⟨u, hu, hcr⟩ := hc 0 c rfl
    simp at hu
    subst hu
    have hz : RR w I dp t z (us.set j v) L ∧ j < us.length := by
      cases dp with
      | true =>
        have := hs rfl
        simp only [List.length_cons, slFree, Bool.and_eq_true, Bool.not_eq_true'] at this
        exact setC_ot hi hcr h1 this.1 hr
      | false =>
        obtain ⟨q1, q2⟩ := setC_rt hi hcr h1 hr.2
        exact ⟨⟨hr.1, q1⟩, q2⟩
    obtain ⟨q1, q2⟩ := setCs_rr hi (vs := vs) h2 (fun hd => by
      have := hs hd
      simp only [List.length_cons, slFree, Bool.and_eq_true] at this
      exact this.2) hz.1 (by simpa using hl) fun i c hi' => by
        obtain ⟨u, hu, hr⟩ := hc (i + 1) c (by simpa using hi')
        exact ⟨u, by simpa using hu, hr⟩
    refine ⟨q1, fun _ => ?_⟩
    simp only [List.length_cons]
    rcases Nat.eq_zero_or_pos cs.length with h0 | h0
    · omega
    · have := q2 h0; simp at this; omega
theorem ownsR.stored {w : World} {e : TypeId} {size n m cap g f : Nat} {xs : List Value} (h : ownsR w e size (.slice (some ⟨g, f, none⟩) m cap) n xs) (j : Nat) (u : Value) : ownsR (w.setCell ⟨g, f + j, none⟩ u) e size (.slice (some ⟨g, f, none⟩) m cap) n (xs.set j u) := by
  refine ⟨by rw [List.length_set]; exact h.1, ?_⟩
  rcases h.2 with ⟨h, _⟩ | ⟨g', f', cap', cur, he, hgg, h1, h2, h3, h4⟩
  · cases h
  · cases he
    refine .inr ⟨g, f, cap, cur.setIfInBounds (f + j) u, rfl, ?_, h1, h2, by simpa using h3, ?_⟩
    · obtain ⟨hlt, hge⟩ := Array.getElem?_eq_some_iff.1 hgg
      simp [World.setCell, hlt, Array.getElem_modify, hge]
    · rw [← h4]
      apply List.ext_getElem?
      intro i
      simp only [Array.toList_setIfInBounds, List.getElem?_take, List.getElem?_drop, List.getElem?_set, List.length_take, List.length_drop]
      by_cases hi : i < n * size
      · simp only [hi, if_true]
        by_cases hij : j = i
        · subst hij
          simp only [if_true]
          by_cases hb : f + j < cur.toList.length
          · rw [if_pos hb, if_pos (by simp only [Array.length_toList] at hb ⊢; omega)]
          · rw [if_neg hb, if_neg (by simp only [Array.length_toList] at hb ⊢; omega)]
        · rw [if_neg (by omega), if_neg hij]
      · by_cases hij : j = i
        · subst hij
          simp only [hi, if_false, if_true]
          split <;> first | rfl | omega
        · simp [hi, hij]
theorem ownsR_putC {b f e size n cap : Nat} : ∀ {vs : List Value} {j : Nat} {w : World} {xs : List Value}, ownsR w e size (.slice (some ⟨b, f, none⟩) n cap) n xs → ownsR (putC w b (f + j) vs) e size (.slice (some ⟨b, f, none⟩) n cap) n (setL xs j vs)
  | [], _, _, _, h => h
  | v :: vs, j, w, xs, h => by
    have := ownsR_putC (vs := vs) (j := j + 1) (w := w.setCell ⟨b, f + j, none⟩ v) (xs := xs.set j v) (h.stored j v)
    exact this
theorem slAt_lt : ∀ {t : Ty} {j : Nat}, slAt t j = true → j < t.w := by
  intro t
  induction t with
  | pr a b iha ihb =>
    intro j h
    unfold slAt at h
    cases hb : Nat.blt j a.w with
    | true => have := Nat.le_of_ble_eq_true hb; simp only [Ty.w]; omega
    | false =>
      rw [hb] at h
      simp only [cond_false] at h
      have := ihb h
      simp only [Ty.w]; omega
  | sl e => intro j h; simp [slAt] at h; subst h; exact Nat.one_pos
  | _ => intro j h; simp [slAt] at h
theorem slFree_at {t : Ty} : ∀ {n j k : Nat}, slFree t j n = true → j ≤ k → k < j + n → slAt t k = false
  | 0, j, k, _, h1, h2 => by omega
  | n + 1, j, k, h, h1, h2 => by
    simp only [slFree, Bool.and_eq_true, Bool.not_eq_true'] at h
    by_cases e : k = j
    · subst e; exact h.1
    · exact slFree_at h.2 (by omega) (by omega)

/-- A store into an element. -/
theorem op_store_e [Glob] {o : Oper} {ty e : TypeId} {x y : Operand} {id i j n : Nat} {t : Ty} {dp : Bool} {xs : List t.T} {cs : List C} {x' : t.T} {N : St → Prop} (ho : o.op = .store ty x y) (hd : o.dst = none)
    (hx : σ.ev x = .one (.rf id (.pe i j))) (hq : σ.objs id = some (.rows e t dp xs)) (hf : (σ.ev y).flat = some cs) (hsz : sizeB P ty = some n) (hn : (Nat.blt 0 n && Nat.beq n cs.length && (!dp || slFree t j n)) = true)
    (hx' : setCs σ.objs t (xs.getD i (dflt t)) j cs = some x') (hN : N (σ.setO id (.rows e t dp (xs.set i x')))) : OpW P o N σ := by
  refine OpW_do (σ' := σ.setO id (.rows e t dp (xs.set i x'))) hd (fun K w I g tm hi => ?_) hN
  simp only [Bool.and_eq_true, Bool.or_eq_true, Bool.not_eq_true'] at hn
  obtain ⟨⟨hn0, hn⟩, hdp⟩ := hn
  have hn0 := Nat.le_of_ble_eq_true hn0
  obtain rfl := Nat.eq_of_beq_eq_true hn
  have hp : seeO w I (g.addr id) (g.base id) (g.L id) (σ.objs id) (.pe i j) (Act.eval ⟨tm, []⟩ x) := (hi.ev_one hx).1
  rw [hq] at hp
  obtain ⟨b, f, cap, hb, hlt, ea⟩ := hp
  obtain ⟨h1, h2⟩ := hi.ev y rfl
  obtain ⟨q1, q2, q3⟩ := shape_cells hf h1
  have hnew : ∀ (i : Nat) (c : C), cs[i]? = some c → ∃ u, (Act.eval ⟨tm, []⟩ y).cells.toList[i]? = some u ∧ CR w I g σ.objs c u := by
    intro i c hc
    obtain ⟨u, hu, hr⟩ := h2 i c (by rw [flat_cells hf]; exact hc)
    rw [q1] at hu
    exact ⟨u, hu, hr⟩
  have hoa := hi.rows hq
  have hnod := hi.nod id
  obtain ⟨vs0, L', hor, hrows, hL⟩ := hoa
  rw [hb] at hor
  rw [getD_at hlt] at hx'
  obtain ⟨u1, us, u2, L1, L0, L2, hvs0, hL', hu1, hul, hrow, hset⟩ := hrows.set (fun _ _ _ h => h.len) (List.getElem?_eq_getElem hlt) (y := x')
  generalize hvs : (Act.eval ⟨tm, []⟩ y).cells.toList = vs at *
  obtain ⟨r1, r2⟩ := setCs_rr hi (vs := vs) hx' (fun hd => hdp.resolve_left (by rw [hd]; simp)) hrow q2 hnew
  have r2 := r2 (by omega)
  rw [hul] at r2
  have hown : b ∈ g.L id := by rw [hL, hb]; simp [Value.ownBlock]
  have hcellAt : ∀ k, k < t.w → ∃ u, w.cell? ⟨b, f + i * t.w + k, none⟩ = some u := by
    intro k hk
    have hlt2 : i * t.w + k < xs.length * t.w := by
      have : (i + 1) * t.w ≤ xs.length * t.w := Nat.mul_le_mul_right _ hlt
      rw [Nat.add_mul] at this; omega
    have hlen : vs0.length = xs.length * t.w := hor.1
    have := hor.cells (i * t.w + k) _ (List.getElem?_eq_getElem (by omega))
    rw [← Nat.add_assoc] at this
    exact ⟨_, this⟩
  have hroom : ∀ k, k < vs.length → (w.cell? ⟨b, f + i * t.w + j + k, none⟩).isSome = true ∧ w.frozen? ⟨b, f + i * t.w + j + k, none⟩ = false := by
    intro k hk
    obtain ⟨u, hu⟩ := hcellAt (j + k) (by omega)
    rw [Nat.add_assoc]
    exact ⟨by rw [hu]; rfl, hor.frozenAt _⟩
  have hrun : (execOp (Act.eval ⟨tm, []⟩) o).run P w = .ok .skip (putC w b (f + i * t.w + j) vs) := by
    have := run_storeVar_box (P := P) (ty := ty) (b := b) (o := f + i * t.w + j) (w := w) (v := Act.eval ⟨tm, []⟩ y) (by rw [hsz, ← q2, ← hvs, Array.length_toList]) (by rw [hvs]; exact hroom) (by rw [hvs]; exact q3)
    rw [hvs] at this
    simp [execOp, ho, ea, Instr.storeAt, Instr.sureAddr, this]
  have hown' := ownsR_putC (vs := vs) (j := i * t.w + j) hor
  rw [← Nat.add_assoc] at hown'
  obtain ⟨f1, f2, f3, f4, f5, f6, f7⟩ := putC_facts (b := b) (vs := vs) (o := f + i * t.w + j) (w := w) (fun k hk => (hroom k hk).1)
  generalize putC w b (f + i * t.w + j) vs = w' at f1 f2 f3 f4 f5 f6 f7 hrun hown'
  have hsub : ∀ x ∈ L1 ++ L0 ++ L2, x ≠ b := by
    rintro x hx rfl
    rw [hL, hb, hL'] at hnod
    simp only [Value.ownBlock, Option.toList_some, List.singleton_append, List.nodup_cons] at hnod
    exact hnod.1 hx
  refine ⟨w', I, _, hrun, hi.one (T := fun x => x = b) (L := g.L id) (ad := g.addr id) (base := g.base id) ⟨f5, f6, f7, by omega, fun x _ hx => f3 x hx⟩ (fun x hx => .inl (by rw [hx]; exact hown)) (hi.fr.step (T := fun x => x = b) ⟨f5, f6, f7, by omega, fun x _ hx => f3 x hx⟩ fun x hx => by rw [hx]; exact hi.own_mine hq (fun _ h => by cases h) hown) (fun _ h => h) (fun x hx => .inl hx) hnod
    (fun x hx => ⟨by rw [f4]; exact hi.ob_lt hx, .inl hx, (hi.own id x hx).2.2⟩) (fun a ha => absurd ha (hi.noE hq (fun _ h => by cases h) a)) (fun v hv => (hi.exB id v hv).2 _ hq) ?_ fun hk hI => ?_⟩
  · intro r u hs
    rw [hq] at hs
    rw [St.setO_same, Gh.setO_eq.2.1, Gh.setO_eq.2.2]
    refine see_rows (by simp) (fun hd => ⟨fun x hx => ⟨hx, fun f => ?_⟩, fun x xf xn xc hx i' j' hsl => ?_⟩) hs
    · refine cell_block (f3 x ?_) f
      rintro rfl
      rcases hx with hx | hx
      · exact (hi.own id _ hown).1 hx
      · exact hx.2 (by rw [hb]; rfl)
    · rw [hb] at hx
      cases hx
      rw [f1, if_neg]
      rintro ⟨_, l1, l2⟩
      have hj' := slAt_lt hsl
      have hfree := hdp.resolve_left (by rw [hd]; simp)
      have hi' : i' = i := by
        have a1 : i' * t.w + j' < (i + 1) * t.w := by rw [Nat.add_mul]; omega
        have a2 : i * t.w < (i' + 1) * t.w := by rw [Nat.add_mul]; omega
        have a3 := Nat.lt_of_mul_lt_mul_right (a := t.w) (show i * t.w < (i' + 1) * t.w from a2)
        have a4 := Nat.lt_of_mul_lt_mul_right (a := t.w) (show i' * t.w < (i + 1) * t.w by omega)
        omega
      subst hi'
      have := slFree_at (k := j') hfree (by omega) (by omega)
      rw [hsl] at this
      cases this
  · unfold ObR
    rw [St.setO_same]
    show OA w' I dp e t (xs.set i x') ((g.setO id (g.addr id) (g.base id) (g.L id)).base id) ((g.setO id (g.addr id) (g.base id) (g.L id)).L id)
    rw [Gh.setO_eq.2.1, Gh.setO_eq.2.2, hb]
    have hmid : setL vs0 (i * t.w + j) vs = u1 ++ setL us j vs ++ u2 := by rw [hvs0, ← hu1]; exact setL_mid (by omega)
    rw [hmid] at hown'
    have hk2 : ∀ {x : t.T} {u : List Value} {M : List Nat}, (∀ b' ∈ M, b' ∈ L1 ++ L0 ++ L2) → RR w I dp t x u M → RR w' I dp t x u M := fun hM h => RR.kept (fun _ h => h) (fun b' hb' f => (hI b' hb').2 f) (fun b' hb' => f3 b' (hsub b' (hM b' hb'))) h
    refine ⟨u1 ++ setL us j vs ++ u2, L1 ++ L0 ++ L2, by rw [List.length_set]; exact hown', (hset _ _ r1).mono fun x u M _ hM h => hk2 hM h, by rw [hL, hb, hL']⟩
end Go.LX

