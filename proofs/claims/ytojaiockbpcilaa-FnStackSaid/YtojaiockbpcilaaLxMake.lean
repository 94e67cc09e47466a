/- Literals of slices, make, stores into elements, what is made fixed. -/
import Derived.Test.YtojaiockbpcilaaLxRows
set_option linter.unusedVariables false
set_option linter.unusedSimpArgs false
namespace Go.LX

variable {P : Program} {σ : St}

/-! ### Ghost steps -/
theorem OpW.weak [Glob] {o : Oper} {N : St → Prop} {σ' : St} (hw : Wk σ σ') (h : OpW P o N σ') : OpW P o N σ := fun K w I g tm hi => let ⟨I', g', h1⟩ := hw K w I g tm hi; h K w I' g' tm h1
theorem Wk_freeze [Glob] {o : Nat} {e : TypeId} {t : Ty} {dp : Bool} {xs : List t.T} (ho : σ.objs o = some (.rows e t dp xs)) : Wk σ (σ.setO o (.fz t dp xs)) := fun _ _ _ _ _ hi => ⟨_, _, hi.freeze ho⟩
theorem Wk_shallow [Glob] {o : Nat} {e : TypeId} {t : Ty} {dp : Bool} {xs : List t.T} (ho : σ.objs o = some (.rows e t dp xs)) : Wk σ (σ.setO o (.rows e t false xs)) := fun _ _ _ _ _ hi => ⟨_, _, hi.shallow ho⟩

/-! ### Literals of slices -/
theorem fillC_len {size : Nat} : ∀ {ps : List (Nat × List C)} {c0 c1 : List C}, fillC (fun i => some (i * size, size)) c0 ps = some c1 → c1.length = c0.length
  | [], c0, c1, h => by simp [fillC] at h; rw [h]
  | (i, c) :: ps, c0, c1, h => by
    unfold fillC at h
    simp only at h
    cases hq : (Nat.beq c.length size && Nat.ble (i * size + size) c0.length) with
    | false => rw [hq] at h; cases h
    | true =>
      rw [hq] at h
      obtain ⟨q1, q2⟩ := Bool.and_eq_true_iff.1 hq
      have q1 := Nat.eq_of_beq_eq_true q1
      have q2 := Nat.le_of_ble_eq_true q2
      rw [fillC_len h]
      simp only [List.length_append, List.length_take, List.length_drop]
      omega
/-- A literal's cells. -/
def litC (P : Program) (ev : Operand → SV) (ty : TypeId) (len : Nat) (parts : Array (Nat × Operand)) : Option (TypeId × Nat × List C) :=
  (elemB P ty).bind fun e => (sizeB P e).bind fun size => (zeroB P e).bind fun zs => (partsC ev parts.toList).bind fun ps =>
    bif plainZ zs && Nat.beq zs.length size && Nat.ble (len * size) 16777216 && Nat.ble len 16777216 then (fillC (fun i => some (i * size, size)) (List.replicate (len * size) .any) ps).map fun cs => (e, size, cs) else none
theorem litC_run [Glob] {o : Oper} {ty : TypeId} {len : Nat} {parts : Array (Nat × Operand)} {e : TypeId} {size : Nat} {cs : List C} (ho : o.op = .buildSlice ty len parts) (h : litC P σ.ev ty len parts = some (e, size, cs)) {K : Ctx} {w : World} {I : Nat → Prop} {g : Gh} {tm : Array Value} (hi : Inv K w I g σ tm) :
    cs.length = len * size ∧ len ≤ maxLen ∧ P.underlying ty = some (.slice e) ∧ ∃ us : Array Value, (execOp (Act.eval ⟨tm, []⟩) o).run P w = .ok (.value (.slice (some ⟨w.heap.size, 0, none⟩) len len)) (w.alloc (.cells us e)) ∧ us.size = cs.length ∧ ∀ (j : Nat) (c : C), cs[j]? = some c → ∃ u, us[j]? = some u ∧ u.oneCell' = true ∧ CR w I g σ.objs c u := by
  simp only [litC, Option.bind_eq_some_iff] at h
  obtain ⟨e', he, size', hsz, zs, hz, ps, hps, h⟩ := h
  cases hb : (plainZ zs && Nat.beq zs.length size' && Nat.ble (len * size') 16777216 && Nat.ble len 16777216) with
  | false => rw [hb] at h; cases h
  | true =>
    rw [hb] at h
    simp only [cond_true, Option.map_eq_some_iff, Prod.mk.injEq] at h
    obtain ⟨cs', hf, rfl, rfl, rfl⟩ := h
    simp only [Bool.and_eq_true] at hb
    obtain ⟨⟨⟨hp, hzl⟩, hsm⟩, hml⟩ := hb
    have hsm := Nat.le_of_ble_eq_true hsm
    have hml := Nat.le_of_ble_eq_true hml
    have hzl := Nat.eq_of_beq_eq_true hzl
    have hcl : cs'.length = len * size' := by rw [fillC_len hf]; simp
    refine ⟨hcl, by simp only [maxLen]; omega, elemB_ok he, ?_⟩
    unfold zeroB at hz
    cases hinf : P.info? e' with
    | none => simp [hinf] at hz
    | some inf =>
      cases hzz : inf.zero with
      | none => simp [hinf, hzz] at hz
      | some z =>
        simp [hinf, hzz] at hz
        have hzs : z.cells.size = size' := by rw [← hzl, ← hz]; simp
        have hc0 : CellsR (fun c u => u.oneCell' = true ∧ CR w I g σ.objs c u) (List.replicate (len * size') .any) ((Array.range (len * size')).map ((if len * size' = 0 then #[] else z.cells)[· % (if len * size' = 0 then #[] else z.cells).size]!)) := by
          refine ⟨by simp, fun j c hj => ?_⟩
          have hlt := (List.getElem?_eq_some_iff.1 hj).1
          simp at hlt
          rw [List.getElem?_replicate, if_pos hlt] at hj
          cases hj
          have hne : ¬ len * size' = 0 := by omega
          have hpos : 0 < size' := by
            rcases Nat.eq_zero_or_pos size' with h | h
            · subst h; simp at hlt
            · exact h
          have hm : j % z.cells.size < z.cells.size := Nat.mod_lt _ (by omega)
          refine ⟨z.cells[j % z.cells.size]!, by simp [hlt, hne], ?_, trivial⟩
          rw [getElem!_pos z.cells _ hm]
          exact List.all_eq_true.1 hp _ (by rw [← hz]; simp)
        have hpm : (parts.map fun x => (x.1, Act.eval ⟨tm, []⟩ x.2)).toList = parts.toList.map fun x => (x.1, Act.eval ⟨tm, []⟩ x.2) := by simp
        obtain ⟨us, hfill, hus⟩ := fill_rel hf hc0 (parts_rel hi hps)
        refine ⟨us, ?_, hus.1, hus.2⟩
        have hrun : (Instr.buildSlice ty len (parts.map fun x => (x.1, Act.eval ⟨tm, []⟩ x.2))).run P w = .ok (.slice (some ⟨w.heap.size, 0, none⟩) len len) (w.alloc (.cells us e')) := by
          unfold Instr.buildSlice
          simp only [Sem.run_bind, run_underlying (elemB_ok he), Result.andThen_ok, run_sizeB hsz]
          rw [if_neg (Nat.not_lt.2 (show len * size' ≤ 2 ^ 24 from hsm))]
          by_cases hzero : len * size' = 0
          · rw [if_pos hzero] at hfill ⊢
            simp only [Sem.run_bind, Sem.run_pure, Result.andThen_ok, hpm]
            rw [hfill]
            simp [newRow]
          · rw [if_neg hzero] at hfill ⊢
            simp only [Sem.run_bind, Sem.run_pure, run_zeroV hinf hzz, Result.andThen_ok, hpm]
            rw [hfill]
            simp [newRow]
        simp only [execOp, ho, Sem.run_bind, hrun, Result.andThen_ok]; rfl
/-- Written out. -/
theorem op_litC [Glob] {o : Oper} {t id len size : Nat} {ty e : TypeId} {parts : Array (Nat × Operand)} {cs : List C} {N : St → Prop} (ho : o.op = .buildSlice ty len parts) (hd : o.dst = some t) (ht : Nat.blt t σ.n = true) (h : litC P σ.ev ty len parts = some (e, size, cs)) (hid : newO σ.objs t = some id)
    (hN : N ((σ.setO id (.cells cs)).put t (.one (.rf id (.as size len e))))) : OpW P o N σ := by
  refine OpW_obj (σ' := σ.setO id (.cells cs)) hd ht rfl (fun K w I g tm hi => ?_) hN
  obtain ⟨h1, h2, h3, us, hrun, hul, hus⟩ := litC_run ho h hi
  refine ⟨_, _, I, _, hrun, hi.allocCells (newO_ok hid) hus, shape_one rfl ?_⟩
  show seeO _ _ _ _ _ ((σ.setO _ _).objs _) _ _
  rw [St.setO_same, Gh.setO_eq.1]
  exact ⟨rfl, h1, h2⟩
/-- As rows. -/
theorem op_litR [Glob] {o : Oper} {t' id len : Nat} {ty e : TypeId} {parts : Array (Nat × Operand)} {cs : List C} (t : Ty) (dp : Bool) {xs : List t.T} {N : St → Prop} (ho : o.op = .buildSlice ty len parts) (hd : o.dst = some t') (ht : Nat.blt t' σ.n = true) (h : litC P σ.ev ty len parts = some (e, t.w, cs)) (hm : mkRows σ.objs t len cs = some xs) (hk : (t.flat || (!dp || Nat.beq len 0)) = true)
    (hid : newO σ.objs t' = some id) (hN : N ((σ.setO id (.rows e t dp xs)).put t' (.one (.rf id .ar)))) : OpW P o N σ := by
  refine OpW_obj (σ' := σ.setO id (.rows e t dp xs)) hd ht rfl (fun K w I g tm hi => ?_) hN
  obtain ⟨h1, h2, h3, us, hrun, hul, hus⟩ := litC_run ho h hi
  obtain ⟨q1, q2⟩ := mkRows_ok hi (us := us.toList) hm (by simpa using hul) fun j c hj => by
    obtain ⟨u, hu, _, hr⟩ := hus j c hj
    exact ⟨u, by simpa using hu, hr⟩
  have hB := Below.allocW w (.cells us e)
  have hg := hi.grow hB
  have hown := World.ownsRow_lit (base := 0) (e := e) (size := t.w) w us len (Nat.zero_le _) h2 (by rw [hul, h1])
  have hrr : Rows (RR (w.alloc (.cells us e)) I dp t) xs us.toList [] := by
    have hq : Rows (fun x u L => L = [] ∧ RT (w.alloc (.cells us e)) I t x u) xs us.toList [] := q2.mono fun x u L1 _ _ h => ⟨h.1, h.2.kept (fun _ h => h) fun b hb o => cell_block (hB.block b (hi.immX b hb).1) o⟩
    cases hf : t.flat with
    | true => exact rows_RR hq (.inl hf)
    | false =>
      rw [hf] at hk
      simp only [Bool.false_or, Bool.or_eq_true, Bool.not_eq_true'] at hk
      rcases hk with hk | hk
      · exact rows_RR hq (.inr ⟨hk, fun _ h => h⟩)
      · have hl0 := Nat.eq_of_beq_eq_true hk
        have : xs = [] := List.eq_nil_of_length_eq_zero (by rw [q1, hl0])
        subst this
        exact q2
  have hnew := hg.newRows (o := id) (e := e) (dp := dp) (v := .slice (some ⟨w.heap.size, 0, none⟩) len len) (L := [w.heap.size]) (newO_ok hid).1 (fun v hv => absurd hv ((hg.noE' (newO_ok hid).2).2 v)) (hg.noE' (newO_ok hid).2).1 (by simp) (fun b hb => by simp at hb; subst hb; exact free_new hi (Nat.le_refl _)) ⟨us.toList, [], by rw [q1]; exact .of hown, hrr, by simp [Value.ownBlock]⟩
  refine ⟨_, _, I, _, hrun, hnew, shape_one rfl ?_⟩
  show seeO _ _ _ _ _ ((σ.setO _ _).objs _) _ _
  rw [St.setO_same, Gh.setO_eq.2.1]
  rfl

/-! ### make -/
theorem flat_row : ∀ {α : Type} {rs : List (List α)} {size i : Nat} {row : List α}, (∀ r ∈ rs, r.length = size) → rs[i]? = some row → (rs.flatten.drop (i * size)).take size = row
  | α, r :: rs, size, 0, row, h, hr => by
    simp at hr; subst hr
    have := h r (by simp)
    simp [List.take_append_of_le_length (Nat.le_of_eq this.symm), List.take_of_length_le (Nat.le_of_eq this)]
  | α, r :: rs, size, i + 1, row, h, hr => by
    have hl := h r (by simp)
    have e : (i + 1) * size = r.length + i * size := by rw [hl, Nat.add_mul, Nat.one_mul, Nat.add_comm]
    rw [List.flatten_cons, e, List.drop_append]
    simp only [Nat.add_sub_cancel_left, List.drop_eq_nil_of_le (Nat.le_add_right _ _), List.nil_append]
    exact flat_row (fun r hr => h r (by simp [hr])) (by simpa using hr)
  | α, [], _, _, _, _, hr => by simp at hr
theorem flat_len {α : Type} : ∀ {rs : List (List α)} {size : Nat}, (∀ r ∈ rs, r.length = size) → rs.flatten.length = rs.length * size
  | [], size, _ => by simp
  | r :: rs, size, h => by
    rw [List.flatten_cons, List.length_append, flat_len (fun r hr => h r (by simp [hr])), h r (by simp), List.length_cons, Nat.add_mul, Nat.one_mul, Nat.add_comm]
theorem made_eq {z : Value} {zs : List Value} {n size : Nat} (hz : z.cells.toList = zs) (hzl : zs.length = size) : (madeCells z.cells (n * size)).toList = (List.replicate n zs).flatten := by
  have hzc : z.cells.size = size := by rw [← hzl, ← hz]; simp
  have hfl : ∀ r ∈ List.replicate n zs, r.length = size := fun r hr => by rw [List.eq_of_mem_replicate hr]; exact hzl
  apply List.ext_getElem?
  intro j
  by_cases hj : j < n * size
  · have hs0 : 0 < size := by
      rcases Nat.eq_zero_or_pos size with h | h
      · rw [h] at hj; simp at hj
      · exact h
    have hq : j / size < n := Nat.div_lt_of_lt_mul (by rw [Nat.mul_comm]; exact hj)
    have hm : j % size < size := Nat.mod_lt _ hs0
    have hrowq : (List.replicate n zs)[j / size]? = some zs := by rw [List.getElem?_replicate, if_pos hq]
    have := flat_row hfl hrowq
    have h2 : (List.replicate n zs).flatten[j]? = zs[j % size]? := by
      have t2 : (((List.replicate n zs).flatten.drop (j / size * size)).take size)[j % size]? = zs[j % size]? := by rw [this]
      rw [List.getElem?_take, if_pos hm, List.getElem?_drop, Nat.mul_comm, Nat.div_add_mod] at t2
      exact t2
    rw [h2, ← hz]
    have hms : j % z.cells.size < z.cells.size := by rw [hzc]; exact hm
    simp [madeCells, hj, hzc, hm, getElem!_pos, hms]
  · have h1 : (madeCells z.cells (n * size)).toList.length ≤ j := by simp [madeCells]; omega
    have h2 : (List.replicate n zs).flatten.length ≤ j := by rw [flat_len hfl]; simp; omega
    rw [List.getElem?_eq_none h1, List.getElem?_eq_none h2]
/-- A zero row of any type: nothing of it lies in memory. -/
theorem op_make [Glob] {o : Oper} {t' id bytes : Nat} {ty e : TypeId} {x y : Operand} {k k' : IntKind} {n : Int} (t : Ty) {z0 : t.T} {zs : List Value} {N : St → Prop} (ho : o.op = .makeSlice ty x y) (hd : o.dst = some t') (ht : Nat.blt t' σ.n = true) (hT : tyB P ty e t.w bytes = true) (hx : σ.ev x = .one (.d (.i k) n)) (hy : σ.ev y = .one (.d (.i k') n))
    (hz : zeroB P e = some zs) (hzt : mkT σ.objs t (zs.map C.ofZ) = some z0) (hfl : t.flat = true) (hid : newO σ.objs t' = some id) (h0 : 0 ≤ n) (hbd : n * bytes ≤ 281474976710656) (hml : n ≤ 9223372036854775807)
    (hN : N ((σ.setO id (.rows e t true (List.replicate n.toNat z0))).put t' (.one (.rf id .ar)))) : OpW P o N σ := by
  refine OpW_obj (σ' := σ.setO id (.rows e t true (List.replicate n.toNat z0))) hd ht rfl (fun K w I g tm hi => ?_) hN
  have hT := tyB_ok hT
  obtain ⟨m, rfl⟩ := Int.eq_ofNat_of_zero_le h0
  simp only [Int.toNat_natCast]
  obtain ⟨zs', hz', hzl⟩ := hT.z
  rw [hz] at hz'
  cases hz'
  have hzr := hz
  unfold zeroB at hz
  cases hinf : P.info? e with
  | none => simp [hinf] at hz
  | some inf =>
    cases hzz : inf.zero with
    | none => simp [hinf, hzz] at hz
    | some z =>
      simp [hinf, hzz] at hz
      have hsz' : inf.size = t.w := by simpa [sizeB, hinf] using hT.sz
      have hb' : inf.bytes = bytes := by simpa [hinf] using hT.by_
      obtain ⟨w', hr, ho', hg⟩ := run_make_full (P := P) w 0 ty e inf z t.w hT.ty hinf hzz hsz' k k' m (by rw [hb', Nat.mul_comm]; exact Int.ofNat_le.1 (by rw [Int.natCast_mul]; exact hbd)) (by show m ≤ 2 ^ 63 - 1; omega) (Nat.zero_le _)
      rw [made_eq hz hzl] at ho'
      have hgr := (Grow.of_grownBy hg).mono (T' := fun _ => False) fun b hb => by cases hb
      have hi' := hi.scrib hgr fun _ h => h.elim
      have hrow : RT w I t z0 zs := mkT_ok hi hzt (by simp) fun j c hj => by
        simp only [List.getElem?_map, Option.map_eq_some_iff] at hj
        obtain ⟨v, hv, rfl⟩ := hj
        exact ⟨v, hv, CR.ofZ⟩
      have hrows : ∀ m, Rows (RR w' I true t) (List.replicate m z0) (List.replicate m zs).flatten [] := by
        intro m
        induction m with
        | zero => exact ⟨rfl, rfl⟩
        | succ m ih => exact ⟨zs, _, [], [], by simp [List.replicate_succ], rfl, RT.ot hfl hrow, ih⟩
      have hge : w.heap.size < w'.heap.size := (ho'.lt w.heap.size rfl).2
      have hnew := hi'.newRows (o := id) (e := e) (dp := true) (v := .slice (some ⟨w.heap.size, 0, none⟩) m m) (L := [w.heap.size]) (newO_ok hid).1 (fun v hv => absurd hv ((hi'.noE' (newO_ok hid).2).2 v)) (hi'.noE' (newO_ok hid).2).1 (by simp) (fun b hb => by simp at hb; subst hb; exact free_new hi (Nat.le_refl _))
        ⟨_, [], by rw [List.length_replicate]; exact .of ho', hrows m, by simp [Value.ownBlock]⟩
      refine ⟨_, w', I, _, ?_, hnew, shape_one (u := .slice (some ⟨w.heap.size, 0, none⟩) m m) rfl ?_⟩
      · simp only [execOp, ho, Sem.run_bind, hi.ev_i hx, hi.ev_i hy, hr, Result.andThen_ok]; rfl
      · show seeO _ _ _ _ _ ((σ.setO _ _).objs _) _ _
        rw [St.setO_same, Gh.setO_eq.2.1]
        rfl
end Go.LX
