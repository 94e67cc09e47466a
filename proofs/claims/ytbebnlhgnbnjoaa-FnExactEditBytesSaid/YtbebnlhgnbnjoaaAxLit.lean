/- Struct literals, slice literals, make, append. -/
import Derived.Test.YtbebnlhgnbnjoaaAxGrow
import Derived.Maps.AppendAt
set_option linter.unusedVariables false
set_option linter.unusedSimpArgs false
namespace Go.AX

variable {P : Program} {σ : St}

/-- The parts of a literal, by their cells. -/
def partsC (σ : St) : List (Nat × Operand) → Option (List (Nat × List C))
  | [] => some []
  | (i, x) :: r => match (σ.evv x).flat, partsC σ r with
    | some cs, some ps => some ((i, cs) :: ps)
    | _, _ => none
theorem parts_rel {K : Ctx} {w : World} {I : Nat → Prop} {g : Gh} {tm : Array Value} (hi : Inv K w I g σ tm) : ∀ {parts : List (Nat × Operand)} {ps : List (Nat × List C)}, partsC σ parts = some ps →
    All2 (fun p v => p.1 = v.1 ∧ CellsR (fun c u => c.isOw = false ∧ ∀ pl, CR w I g σ tm pl c u) p.2 v.2.cells) ps (parts.map fun x => (x.1, Act.eval ⟨tm, []⟩ x.2))
  | [], ps, h => by simp [partsC] at h; subst h; trivial
  | (i, x) :: r, ps, h => by
    unfold partsC at h
    cases h1 : (σ.evv x).flat with
    | none => simp [h1] at h
    | some cs =>
      cases h2 : partsC σ r with
      | none => simp [h1, h2] at h
      | some ps' =>
        simp [h1, h2] at h
        subst h
        refine ⟨⟨rfl, ?_⟩, parts_rel hi h2⟩
        obtain ⟨hs, hc⟩ := hi.evv x rfl
        obtain ⟨q1, q2⟩ := shape_cells h1 hs
        refine ⟨by simpa using q2, fun j c hj => ?_⟩
        obtain ⟨how, u, hu, hr⟩ := hc j c (by rw [flat_cells h1]; exact hj)
        rw [q1] at hu
        exact ⟨u, by simpa using hu, how, hr⟩

def placesB (P : Program) : List Field → Option (List (Nat × Nat))
  | [] => some []
  | f :: r => match sizeB P f.type, placesB P r with
    | some n, some ps => some ((f.offset, n) :: ps)
    | _, _ => none
def fieldsB (P : Program) (ty : TypeId) : Option (List (Nat × Nat)) :=
  match P.underlying ty with
  | some (.struct fs) => placesB P fs.toList
  | _ => none
theorem run_placesB : ∀ {fs : List Field} {ps : List (Nat × Nat)}, placesB P fs = some ps → ∀ w, (fs.mapM fun f => do pure (f.offset, ← sizeOf f.type) : Sem (List (Nat × Nat))).run P w = .ok ps w
  | [], ps, h, w => by simp [placesB] at h; subst h; rfl
  | f :: r, ps, h, w => by
    unfold placesB at h
    cases h1 : sizeB P f.type with
    | none => simp [h1] at h
    | some n =>
      cases h2 : placesB P r with
      | none => simp [h1, h2] at h
      | some ps' =>
        simp [h1, h2] at h
        subst h
        have := run_placesB h2 w
        rw [List.mapM_cons]
        simp only [Sem.run_bind, run_sizeB h1, Result.andThen_ok, Sem.run_pure]
        rw [this]
        rfl

theorem run_zeroV {e : TypeId} {inf : TypeInfo} {z : Value} (h : P.info? e = some inf) (hz : inf.zero = some z) (w : World) : (zeroValue e).run P w = .ok z w := by
  simp [zeroValue, typeInfo, h, hz]
theorem op_build {o : Oper} {t : Nat} {ty : TypeId} {parts : Array (Nat × Operand)} {zs : List Value} {pl : List (Nat × Nat)} {ps : List (Nat × List C)} {cs : List C} {N : St → Prop} (ho : o.op = .build ty parts) (hd : o.dst = some t) (ht : Nat.blt t σ.n = true) (h0 : (σ.slots t).noOw = true)
    (hpl : fieldsB P ty = some pl) (hz : zeroB P ty = some zs) (hp : plainZ zs = true) (hps : partsC σ parts.toList = some ps) (hf : fillC (fun (i : Nat) => pl[i]?) (zs.map C.ofZ) ps = some cs) (hN : N (σ.put t (.ag cs))) : OpW P o N σ := by
  refine OpW_put hd ht h0 (fun K w I g tm hi => ?_) hN
  unfold zeroB at hz
  cases hinf : P.info? ty with
  | none => simp [hinf] at hz
  | some inf =>
    cases hzz : inf.zero with
    | none => simp [hinf, hzz] at hz
    | some z =>
      simp [hinf, hzz] at hz
      have hz0 : CellsR (fun c u => c.isOw = false ∧ ∀ pl, CR w I g σ tm pl c u) (zs.map C.ofZ) z.cells := by
        refine ⟨by rw [← hz]; simp, fun j c hj => ?_⟩
        simp only [List.getElem?_map, Option.map_eq_some_iff] at hj
        obtain ⟨v, hv, rfl⟩ := hj
        have hpv := List.all_eq_true.1 hp v (List.mem_of_getElem? hv)
        have hor : scal v = true ∨ v = .slice none 0 0 := by
          simp only [Bool.or_eq_true] at hpv
          rcases hpv with h | h
          · exact .inl h
          · right; split at h <;> first | rfl | cases h
        refine ⟨v, by rw [← hz] at hv; simpa using hv, ?_, fun pl => CR.ofZ hor⟩
        unfold C.ofZ; split <;> rfl
      obtain ⟨us, hfill, hus⟩ := fill_rel hf hz0 (parts_rel hi hps)
      unfold fieldsB at hpl
      cases hu : P.underlying ty with
      | none => simp [hu] at hpl
      | some d =>
        cases d with
        | struct fs =>
          simp only [hu] at hpl
          have hplaces : (fs.mapM fun f => do pure (f.offset, ← sizeOf f.type) : Sem (Array (Nat × Nat))).run P w = .ok pl.toArray w := by
            have e : fs = fs.toList.toArray := by simp
            rw [e, List.mapM_toArray]
            simp only [Sem.run_map]
            rw [run_placesB hpl w]
            rfl
          refine ⟨.agg us, ?_, ⟨us.toList, by simp, by simpa using hus.1⟩, fun i c hc => ?_⟩
          · have hpm : (parts.map fun x => (x.1, Act.eval ⟨tm, []⟩ x.2)).toList = parts.toList.map fun x => (x.1, Act.eval ⟨tm, []⟩ x.2) := by simp
            have hgp : (fun (i : Nat) => pl.toArray[i]?) = fun (i : Nat) => pl[i]? := by funext i; simp
            rw [← hgp] at hfill
            have hrun : (Instr.build ty (parts.map fun x => (x.1, Act.eval ⟨tm, []⟩ x.2))).run P w = .ok (.agg us) w := by
              unfold Instr.build
              simp only [Sem.run_bind, run_zeroV hinf hzz, run_underlying hu, Result.andThen_ok]
              rw [hplaces]
              simp only [Result.andThen_ok, hpm]
              rw [show (fun (x : Nat) => pl.toArray[x]?) = (fun (i : Nat) => pl.toArray[i]?) from rfl, hfill]
              rfl
            simp [execOp, ho, hrun]
          · obtain ⟨u, hu, _, hr⟩ := hus.2 i c hc
            exact ⟨u, by simpa [valCells, Value.cells] using hu, hr _⟩
        | _ => simp [hu] at hpl

/-- What may lie in a slice that is read alone. -/
def C.toIm : C → Option D
  | .d x => some x
  | .nl => some (.sl [])
  | .vw _ _ rs => bif rs.isEmpty then some (.sl []) else none
  | _ => none
def imAll : List C → Option (List D)
  | [] => some []
  | c :: r => match c.toIm, imAll r with
    | some d, some ds => some (d :: ds)
    | _, _ => none
def chunk (size : Nat) : Nat → List D → List (List D)
  | 0, _ => []
  | n + 1, ds => ds.take size :: chunk size n (ds.drop size)
theorem chunk_len {size : Nat} : ∀ {n : Nat} {ds : List D}, (chunk size n ds).length = n
  | 0, _ => rfl
  | n + 1, ds => by simp [chunk, chunk_len (n := n)]
theorem chunk_flat {size : Nat} : ∀ {n : Nat} {ds : List D}, ds.length = n * size → (chunk size n ds).flatten = ds ∧ ∀ r ∈ chunk size n ds, r.length = size
  | 0, ds, h => by simp at h; subst h; exact ⟨rfl, fun r hr => by cases hr⟩
  | n + 1, ds, h => by
    have h' : (ds.drop size).length = n * size := by rw [List.length_drop, h, Nat.add_mul]; omega
    obtain ⟨h1, h2⟩ := chunk_flat h'
    refine ⟨by simp [chunk, h1], fun r hr => ?_⟩
    simp only [chunk, List.mem_cons] at hr
    rcases hr with rfl | hr
    · rw [List.length_take, h, Nat.add_mul]; omega
    · exact h2 r hr
theorem imAll_rel {w : World} {I : Nat → Prop} {g : Gh} {tm : Array Value} {pl : Pl} : ∀ {cs : List C} {ds : List D} {us : List Value}, imAll cs = some ds → us.length = cs.length → (∀ (j : Nat) (c : C), cs[j]? = some c → ∃ u, us[j]? = some u ∧ CR w I g σ tm pl c u) → All2 (Rd w I) ds us
  | [], ds, us, h, hl, _ => by
    simp [imAll] at h; subst h
    cases us with
    | nil => trivial
    | cons => simp at hl
  | c :: r, ds, [], h, hl, _ => by simp at hl
  | c :: r, ds, u :: us, h, hl, hc => by
    unfold imAll at h
    cases h1 : c.toIm with
    | none => simp [h1] at h
    | some d =>
      cases h2 : imAll r with
      | none => simp [h1, h2] at h
      | some ds' =>
        simp [h1, h2] at h
        subst h
        refine ⟨?_, imAll_rel h2 (by simpa using hl) fun j c hj => by
          obtain ⟨v, hv, hr⟩ := hc (j + 1) c (by simpa using hj)
          exact ⟨v, by simpa using hv, hr⟩⟩
        obtain ⟨v, hv, hr⟩ := hc 0 c rfl
        simp at hv
        subst hv
        have emp : ∀ {S : Nat → Prop} {S' : Nat → Prop}, Rd w S (.sl []) u → Rd w S' (.sl []) u := fun h => by
          obtain ⟨A, cap, e, q1, q2, _⟩ := Rd.sl_iff.1 h
          exact Rd.sl_iff.2 ⟨A, cap, e, q1, q2, fun i row hr => by simp at hr⟩
        cases c with
        | d x => simp [C.toIm] at h1; subst h1; exact hr
        | nl => simp [C.toIm] at h1; subst h1; exact Rd.sl_iff.2 ⟨none, 0, hr, Nat.le_refl _, Nat.zero_le _, fun i row hr => by simp at hr⟩
        | vw p wh rs =>
          cases rs with
          | nil => simp [C.toIm] at h1; subst h1; exact emp hr.1
          | cons => simp [C.toIm] at h1
        | _ => simp [C.toIm] at h1

theorem op_buildSlice {o : Oper} {t len size : Nat} {ty e : TypeId} {parts : Array (Nat × Operand)} {ps : List (Nat × List C)} {cs : List C} {ds : List D} {N : St → Prop} (ho : o.op = .buildSlice ty len parts) (hd : o.dst = some t) (ht : Nat.blt t σ.n = true) (h0 : (σ.slots t).noOw = true)
    (hty : P.underlying ty = some (.slice e)) (hsz : sizeB P e = some size) (hz : (zeroB P e).isSome = true) (hps : partsC σ parts.toList = some ps) (hsm : Nat.ble (len * size) 16777216 = true) (hml : Nat.ble len 16777216 = true)
    (hf : fillC (fun i => some (i * size, size)) (List.replicate (len * size) .any) ps = some cs) (him : imAll cs = some ds) (hN : N (σ.put t (.one (.ow ⟨e, none⟩ size 0 (chunk size len ds))))) : OpW P o N σ := by
  have hsm' := Nat.le_of_ble_eq_true hsm
  have hcsl : cs.length = len * size := by
    have key : ∀ (ps : List (Nat × List C)) (c0 c1 : List C), fillC (fun i => some (i * size, size)) c0 ps = some c1 → c1.length = c0.length := by
      intro ps
      induction ps with
      | nil => intro c0 c1 h; simp [fillC] at h; rw [h]
      | cons p ps ih =>
        intro c0 c1 h
        rcases p with ⟨i, c⟩
        unfold fillC at h
        simp only at h
        cases hq : (Nat.beq c.length size && Nat.ble (i * size + size) c0.length) with
        | false => rw [hq] at h; cases h
        | true =>
          rw [hq] at h
          obtain ⟨q1, q2⟩ := Bool.and_eq_true_iff.1 hq
          have q1 := Nat.eq_of_beq_eq_true q1
          have q2 := Nat.le_of_ble_eq_true q2
          rw [ih _ _ h]
          simp only [List.length_append, List.length_take, List.length_drop]
          omega
    rw [key ps _ _ hf]; simp
  have hdl : ds.length = cs.length := by
    have key : ∀ (cs : List C) (ds : List D), imAll cs = some ds → ds.length = cs.length := by
      intro cs
      induction cs with
      | nil => intro ds h; simp [imAll] at h; subst h; rfl
      | cons c cs ih =>
        intro ds h
        unfold imAll at h
        cases h1 : c.toIm with
        | none => simp [h1] at h
        | some d =>
          cases h2 : imAll cs with
          | none => simp [h1, h2] at h
          | some ds' => simp [h1, h2] at h; subst h; simp [ih ds' h2]
    exact key _ _ him
  obtain ⟨hfl, hrl⟩ := chunk_flat (size := size) (n := len) (ds := ds) (by rw [hdl, hcsl])
  refine OpW_new hd ht h0 (fun K w I g tm hi => ?_) hrl hN
  unfold zeroB at hz
  cases hinf : P.info? e with
  | none => simp [hinf] at hz
  | some inf =>
    cases hzz : inf.zero with
    | none => simp [hinf, hzz] at hz
    | some z =>
      have hsz' : inf.size = size := by simpa [sizeB, hinf] using hsz
      have hc0 : ∀ zc : Array Value, CellsR (fun c u => ∀ pl, CR w I g σ tm pl c u) (List.replicate (len * size) .any) ((Array.range (len * size)).map (zc[· % zc.size]!)) := by
        intro zc
        refine ⟨by simp, fun j c hj => ?_⟩
        have hlt := (List.getElem?_eq_some_iff.1 hj).1
        simp at hlt
        rw [List.getElem?_replicate, if_pos hlt] at hj
        cases hj
        exact ⟨zc[j % zc.size]!, by simp [hlt], fun pl => trivial⟩
      have hpr : All2 (fun p v => p.1 = v.1 ∧ CellsR (fun c u => ∀ pl, CR w I g σ tm pl c u) p.2 v.2.cells) ps (parts.toList.map fun x => (x.1, Act.eval ⟨tm, []⟩ x.2)) :=
        (parts_rel hi hps).mono fun p _ v h => ⟨h.1, h.2.1, fun j c hj => by obtain ⟨u, hu, _, hr⟩ := h.2.2 j c hj; exact ⟨u, hu, hr⟩⟩
      have hpm : (parts.map fun x => (x.1, Act.eval ⟨tm, []⟩ x.2)).toList = parts.toList.map fun x => (x.1, Act.eval ⟨tm, []⟩ x.2) := by simp
      obtain ⟨us, hfill, hus⟩ := fill_rel hf (hc0 (if len * size = 0 then #[] else z.cells)) hpr
      have hrun : (Instr.buildSlice ty len (parts.map fun x => (x.1, Act.eval ⟨tm, []⟩ x.2))).run P w = .ok (.slice (some ⟨w.heap.size, 0, none⟩) len len) (w.alloc (.cells us e)) := by
        unfold Instr.buildSlice
        simp only [Sem.run_bind, run_underlying hty, Result.andThen_ok, run_sizeB hsz]
        rw [if_neg (Nat.not_lt.2 (show len * size ≤ 2 ^ 24 from hsm'))]
        by_cases hzero : len * size = 0
        · rw [if_pos hzero] at hfill ⊢
          simp only [Sem.run_bind, Sem.run_pure, Result.andThen_ok, hpm]
          rw [hfill]
          simp [newRow]
        · rw [if_neg hzero] at hfill ⊢
          simp only [Sem.run_bind, Sem.run_pure, run_zeroV hinf hzz, Result.andThen_ok, hpm]
          rw [hfill]
          simp [newRow]
      refine ⟨.slice (some ⟨w.heap.size, 0, none⟩) len len, w.alloc (.cells us e), us.toList, ?_, World.grownBy_alloc w _ none, ?_, ?_⟩
      · simp only [execOp, ho, Sem.run_bind, hrun, Result.andThen_ok]; rfl
      · rw [chunk_len]
        have := Nat.le_of_ble_eq_true hml
        exact World.ownsRow_lit w us len (Nat.le_refl _) (by simp only [maxLen]; omega) (by rw [hus.1, hcsl])
      · rw [hfl]
        refine imAll_rel (pl := ⟨false, 0, 0⟩) (g := g) (σ := σ) (tm := tm) him (by simpa using hus.1) fun j c hj => ?_
        obtain ⟨u, hu, hr⟩ := hus.2 j c hj
        exact ⟨u, by simpa using hu, hr _⟩


/-! ### make -/
theorem op_makeSlice {o : Oper} {t n size bytes : Nat} {ty e : TypeId} {x y : Operand} {k k' : IntKind} {zs : List Value} {N : St → Prop} (ho : o.op = .makeSlice ty x y) (hd : o.dst = some t) (ht : Nat.blt t σ.n = true) (h0 : (σ.slots t).noOw = true)
    (hty : P.underlying ty = some (.slice e)) (hsz : sizeB P e = some size) (hb : (P.info? e).map (·.bytes) = some bytes) (hz : zeroB P e = some zs) (hp : plainZ zs = true) (hzl : Nat.beq zs.length size = true) (hx : σ.ev x = .one (.d (.v (.int k n)))) (hy : σ.ev y = .one (.d (.v (.int k' n))))
    (hbd : n * bytes ≤ 281474976710656) (hml : n ≤ maxLen) {rs : List (List D)} {ds : List D} (hds : imAll (zs.map C.ofZ) = some ds) (hrs : rs = List.replicate n ds) (hN : N (σ.put t (.one (.ow ⟨e, none⟩ size 0 rs)))) : OpW P o N σ := by
  have hzl := Nat.eq_of_beq_eq_true hzl
  have hdl : ds.length = size := by
    have key : ∀ (cs : List C) (ds : List D), imAll cs = some ds → ds.length = cs.length := by
      intro cs
      induction cs with
      | nil => intro ds h; simp [imAll] at h; subst h; rfl
      | cons c cs ih =>
        intro ds h
        unfold imAll at h
        cases h1 : c.toIm with
        | none => simp [h1] at h
        | some d =>
          cases h2 : imAll cs with
          | none => simp [h1, h2] at h
          | some ds' => simp [h1, h2] at h; subst h; simp [ih ds' h2]
    rw [key _ _ hds]; simpa using hzl
  subst hrs
  refine OpW_new hd ht h0 (fun K w I g tm hi => ?_) (fun r hr => by rw [List.eq_of_mem_replicate hr]; exact hdl) hN
  unfold zeroB at hz
  cases hinf : P.info? e with
  | none => simp [hinf] at hz
  | some inf =>
    cases hzz : inf.zero with
    | none => simp [hinf, hzz] at hz
    | some z =>
      simp [hinf, hzz] at hz
      have hsz' : inf.size = size := by simpa [sizeB, hinf] using hsz
      have hb' : inf.bytes = bytes := by simpa [hinf] using hb
      obtain ⟨w', hr, ho', hg⟩ := run_make_full (P := P) w w.heap.size ty e inf z size hty hinf hzz hsz' k k' n (by rw [hb', Nat.mul_comm]; exact hbd) hml (Nat.le_refl _)
      refine ⟨_, w', _, ?_, hg, by rw [List.length_replicate]; exact ho', ?_⟩
      · simp only [execOp, ho, Sem.run_bind, hi.ev_v hx, hi.ev_v hy, hr, Result.andThen_ok]; rfl
      · -- the zeros, cell by cell
        have hzc : z.cells.size = size := by rw [← hzl, ← hz]; simp
        have hrow : All2 (Rd w I) ds zs := imAll_rel (pl := ⟨false, 0, 0⟩) (g := g) (σ := σ) (tm := tm) hds (by simp) fun j c hj => by
          simp only [List.getElem?_map, Option.map_eq_some_iff] at hj
          obtain ⟨v, hv, rfl⟩ := hj
          have hpv := List.all_eq_true.1 hp v (List.mem_of_getElem? hv)
          have hor : scal v = true ∨ v = .slice none 0 0 := by
            simp only [Bool.or_eq_true] at hpv
            rcases hpv with h | h
            · exact .inl h
            · right; split at h <;> first | rfl | cases h
          exact ⟨v, hv, CR.ofZ hor⟩
        have hmade : (madeCells z.cells (n * size)).toList = (List.replicate n zs).flatten := by
          have hfl : ∀ r ∈ List.replicate n zs, r.length = size := fun r hr => by rw [List.eq_of_mem_replicate hr]; exact hzl
          apply List.ext_getElem?
          intro j
          by_cases hj : j < n * size
          · have hs0 : 0 < size := by
              rcases Nat.eq_zero_or_pos size with h | h
              · rw [h] at hj; simp at hj
              · exact h
            have hq : j / size < n := Nat.div_lt_of_lt_mul (by rw [Nat.mul_comm]; exact hj)
            have hm : j % size < size := Nat.mod_lt _ hs0
            have hrowq : (List.replicate n zs)[j / size]? = some zs := by rw [List.getElem?_replicate, if_pos hq]
            have := flat_row hfl hrowq
            have h2 : (List.replicate n zs).flatten[j]? = zs[j % size]? := by
              have t2 : (((List.replicate n zs).flatten.drop (j / size * size)).take size)[j % size]? = zs[j % size]? := by rw [this]
              rw [List.getElem?_take, if_pos hm, List.getElem?_drop, Nat.mul_comm, Nat.div_add_mod] at t2
              exact t2
            rw [h2, ← hz]
            have hms : j % z.cells.size < z.cells.size := by rw [hzc]; exact hm
            simp [madeCells, hj, hzc, hm, getElem!_pos, hms]
          · have h1 : (madeCells z.cells (n * size)).toList.length ≤ j := by simp [madeCells]; omega
            have h2 : (List.replicate n zs).flatten.length ≤ j := by rw [flat_len hfl]; simp; omega
            rw [List.getElem?_eq_none h1, List.getElem?_eq_none h2]
        rw [hmade]
        have key : ∀ n, All2 (Rd w I) (List.replicate n ds).flatten (List.replicate n zs).flatten := by
          intro n
          induction n with
          | zero => trivial
          | succ n ih => simp only [List.replicate_succ, List.flatten_cons]; exact hrow.append ih
        exact key n

/-! ### append -/
/-- The cells that a slice shows. -/
theorem rd_src {w : World} {S I : Nat → Prop} {size : Nat} {rs : List (List D)} {u : Value} (h : Rd w S (.sl rs) u) (hok : (∀ b, S b → I b) ∨ ∀ r ∈ rs, ∀ d ∈ r, ∃ v, d = .v v) (hl : ∀ r ∈ rs, r.length = size) :
    ∃ a cap news, u = .slice a rs.length cap ∧ All2 (Rd w I) rs.flatten news ∧ ((a = none ∧ rs = []) ∨ ∃ a', a = some a' ∧ ∀ j v, news[j]? = some v → w.cell? (a'.add j) = some v) := by
  obtain ⟨A, cap, rfl, h1, h2, h3⟩ := Rd.sl_iff.1 h
  have one : ∀ d v, Rd w S d v → (∀ b, S b → I b) ∨ (∃ x, d = .v x) → Rd w I d v := by
    rintro d v hd (h | h)
    · exact hd.sub h
    · exact hd.okAny h
  have key : ∀ (rs : List (List D)) (i : Nat), (∀ r ∈ rs, r.length = size) → ((∀ b, S b → I b) ∨ ∀ r ∈ rs, ∀ d ∈ r, ∃ v, d = .v v) →
      (∀ k row, rs[k]? = some row → ∃ b o vs, A = some ⟨b, o, none⟩ ∧ CellsAt w S b (o + (i + k) * row.length) vs ∧ All2 (Rd w S) row vs) →
      ∃ news : List Value, All2 (Rd w I) rs.flatten news ∧ ∀ b o, A = some ⟨b, o, none⟩ → ∀ j v, news[j]? = some v → w.cell? ⟨b, o + i * size + j, none⟩ = some v := by
    intro rs
    induction rs with
    | nil => intro i _ _ _; exact ⟨[], trivial, fun b o _ j v hv => by simp at hv⟩
    | cons r rs ih =>
      intro i hl hok hr
      obtain ⟨news, hn1, hn2⟩ := ih (i + 1) (fun r hr => hl r (by simp [hr])) (hok.imp id fun h r hr => h r (by simp [hr])) fun k row hk => by
        obtain ⟨b, o, vs, q1, q2, q3⟩ := hr (k + 1) row (by simpa using hk)
        exact ⟨b, o, vs, q1, by rw [show i + 1 + k = i + (k + 1) by omega]; exact q2, q3⟩
      obtain ⟨b, o, vs, hA, hca, hall⟩ := hr 0 r rfl
      have hrl := hl r (by simp)
      have hvl : vs.length = size := by rw [← hall.length]; exact hrl
      refine ⟨vs ++ news, ?_, fun b' o' hA' j v hv => ?_⟩
      · rw [List.flatten_cons]
        exact (hall.mono fun d hd v hdv => one d v hdv (hok.imp id fun h => h r (by simp) d hd)).append hn1
      · rw [hA] at hA'
        cases hA'
        rw [List.getElem?_append] at hv
        split at hv
        · have := hca.2 j v hv
          rwa [Nat.add_zero, hrl] at this
        · have := hn2 b o hA _ v hv
          rw [show o + i * size + j = o + (i + 1) * size + (j - vs.length) by rw [Nat.add_mul]; omega]
          exact this
  obtain ⟨news, hn1, hn2⟩ := key rs 0 hl hok fun k row hk => by rw [Nat.zero_add]; exact h3 k row hk
  refine ⟨A, cap, news, rfl, hn1, ?_⟩
  cases rs with
  | nil =>
    cases news with
    | cons v vs => exact hn1.elim
    | nil =>
      cases A with
      | none => exact .inl ⟨rfl, rfl⟩
      | some a => exact .inr ⟨a, rfl, fun j v hv => by simp at hv⟩
  | cons r rs =>
    obtain ⟨b, o, vs, hA, _⟩ := h3 0 r rfl
    exact .inr ⟨_, hA, fun j v hv => by have := hn2 b o hA j v hv; rw [Nat.zero_mul, Nat.add_zero] at this; rw [addr_add]; exact this⟩

theorem run_appendB {ty ty' e : TypeId} {size bytes : Nat} (hty : P.underlying ty = some (.slice e)) (hsz : sizeB P e = some size) (hb : (P.info? e).map (·.bytes) = some bytes) {zs : List Value} (hz : zeroB P e = some zs) (hzl : zs.length = size) (hpos : 0 < size)
    {w : World} {I S : Nat → Prop} {v u : Value} {rs rs' : List (List D)} {xs : List Value} (hown : w.ownsRow 0 e size v rs.length xs) (hsrc : Rd w S (.sl rs') u) (hok : (∀ b, S b → I b) ∨ ∀ r ∈ rs', ∀ d ∈ r, ∃ v, d = .v v) (hl : ∀ r ∈ rs', r.length = size)
    (hbd : (rs.length + rs'.length) * bytes ≤ 140737488355328) (hml : rs.length + rs'.length ≤ maxLen) :
    ∃ v' w' news, (Builtin.append_ #[ty, ty] ty' #[v, u]).run P w = .ok v' w' ∧ w'.ownsRow 0 e size v' (rs.length + rs'.length) (xs ++ news) ∧ w.grownBy w' v.ownBlock ∧ All2 (Rd w I) rs'.flatten news ∧ (v'.ownBlock = v.ownBlock ∨ v'.ownBlock = some w.heap.size) := by
  unfold zeroB at hz
  cases hinf : P.info? e with
  | none => simp [hinf] at hz
  | some inf =>
    cases hzz : inf.zero with
    | none => simp [hinf, hzz] at hz
    | some z =>
      simp [hinf, hzz] at hz
      have hsz' : inf.size = size := by simpa [sizeB, hinf] using hsz
      have hb' : inf.bytes = bytes := by simpa [hinf] using hb
      obtain ⟨a, cap, news, rfl, hall, hcase⟩ := rd_src hsrc hok hl
      have hnl : news.length = rs'.length * size := by rw [← hall.length]; exact flat_len hl
      rcases hcase with ⟨rfl, rfl⟩ | ⟨a', rfl, hcells⟩
      · have hn0 : news = [] := List.eq_nil_of_length_eq_zero (by simpa using hnl)
        subst hn0
        refine ⟨v, w, [], ?_, by simpa using hown, ⟨rfl, rfl, rfl, Nat.le_refl _, fun _ _ _ => rfl⟩, hall, .inl rfl⟩
        rcases hown.2 with ⟨rfl, hn⟩ | ⟨g, cap, cur, rfl, _, _, hnc, _⟩
        · simp [Builtin.append_, run_underlying hty, sizeOf, typeInfo, hinf, Builtin.lenOf, Builtin.firstCells]
        · simp [Builtin.append_, run_underlying hty, sizeOf, typeInfo, hinf, Builtin.lenOf, Builtin.firstCells, hnc, storeCells]
      · have hone : ∀ u ∈ news, u.oneCell' = true := by
          intro u hu
          obtain ⟨j, hj⟩ := List.mem_iff_getElem?.1 hu
          have hjl : j < rs'.flatten.length := by rw [hall.length]; exact (List.getElem?_eq_some_iff.1 hj).1
          obtain ⟨u', hu', hr⟩ := hall.get (List.getElem?_eq_getElem hjl)
          rw [hj] at hu'
          cases hu'
          exact hr.oneCell
        obtain ⟨v', w', hr, ho, hg, _, hblk⟩ := run_append_own_at (P := P) w 0 ty ty' e inf z size bytes hty hinf hzz hsz' hb' (by rw [← hzl, ← hz]; simp) hpos v rs.length xs hown a' rs'.length cap news hnl hcells hone hml hbd (Nat.zero_le _)
        exact ⟨v', w', news, hr, ho, hg, hall, hblk⟩

end Go.AX
