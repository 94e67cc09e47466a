/- The nil slice; a make appended to it; a prefix that takes the whole. -/
import Derived.Test.YtbebnlhgnbnjoaaAxByte
import Derived.Lib.AppendZeros
set_option linter.unusedVariables false
set_option linter.unusedSimpArgs false
namespace Go.AX

variable {P : Program} {σ : St}

theorem op_cap_nl {o : Oper} {t : Nat} {ty e : TypeId} {x : Operand} {N : St → Prop} (ho : o.op = .call { callee := .builtin .cap, args := #[x], argTypes := #[ty] }) (hd : o.dst = some t) (ht : Nat.blt t σ.n = true) (h0 : (σ.slots t).noOw = true)
    (hty : P.underlying ty = some (.slice e)) (hx : σ.ev x = .one .nl) (hN : N (σ.put t (.one (.d (.v (.int .i64 0)))))) : OpW P o N σ := by
  refine OpW_scal hd ht h0 rfl (fun K w I g tm hi => ?_) hN
  obtain ⟨pl, hr, _, _⟩ := hi.ev_one hx
  have e1 : Act.eval ⟨tm, []⟩ x = .slice none 0 0 := hr
  simp [execOp, ho, resolve, invoke, builtin, Builtin.cap_, e1, run_underlying hty, goInt]

theorem op_slice_nl {o : Oper} {t size : Nat} {ty e : TypeId} {x : Operand} {lo hi : Option Operand} {l h : Option Int} {N : St → Prop} (ho : o.op = .slice ty x lo hi none) (hd : o.dst = some t) (ht : Nat.blt t σ.n = true) (h0 : (σ.slots t).noOw = true)
    (hty : P.underlying ty = some (.slice e)) (hs : sizeB P e = some size) (hx : σ.ev x = .one .nl) (hl : bndV σ lo = some l) (hh : bndV σ hi = some h)
    (hb0 : l.getD 0 = 0) (hb1 : h.getD 0 = 0) (hN : N (σ.put t (.one .nl))) : OpW P o N σ := by
  refine OpW_put hd ht h0 (fun K w I g tm hi' => ?_) hN
  obtain ⟨pl, hr, _, _⟩ := hi'.ev_one hx
  have e1 : Act.eval ⟨tm, []⟩ x = .slice none 0 0 := hr
  have hrun := run_sliceB (P := P) hty hs hi' hl hh none 0 0 (Nat.le_refl _) (by omega) (by simp; omega) (by simp; omega)
  refine ⟨.slice none 0 0, ?_, rfl, fun i c hc => ?_⟩
  · simp only [execOp, ho, e1, Option.map_none, Sem.run_bind, hrun, Result.andThen_ok]
    simp [sliced, hb0, hb1]
  · obtain ⟨rfl, rfl⟩ := one_cell hc
    exact ⟨.slice none 0 0, rfl, rfl⟩

/-- append(nil, make([]E, n)..): zeros. -/
theorem op_append_mk {o : Oper} {t size bytes : Nat} {ty tn e : TypeId} {x y : Operand} {k kn : IntKind} {n : Nat} {zs : List Value} {ds : List D} {N : St → Prop}
    (ho : o.op = .call { callee := .builtin .append, args := #[x, y], argTypes := #[ty, tn] }) (hd : o.dst = some t) (ht : Nat.blt t σ.n = true) (h0 : (σ.slots t).noOw = true)
    (hty : P.underlying ty = some (.slice e)) (htn : P.underlying tn = some (.int kn)) (hsz : sizeB P e = some size) (hb : (P.info? e).map (·.bytes) = some bytes) (hz : zeroB P e = some zs) (hp : plainZ zs = true) (hzl : Nat.beq zs.length size = true) (hpos : Nat.blt 0 size = true)
    (hx : σ.ev x = .one .nl) {m : Int} (hy : σ.ev y = .one (.d (.v (.int k m)))) (hm : m = n) (hn : 0 < n) (hbd : n * bytes ≤ 140737488355328) (hml : n ≤ maxLen) (hds : imAll (zs.map C.ofZ) = some ds)
    (hN : N (σ.put t (.one (.ow ⟨e, none⟩ size 0 (List.replicate n ds))))) : OpW P o N σ := by
  subst hm
  have hzl := Nat.eq_of_beq_eq_true hzl
  have hpos := Nat.le_of_ble_eq_true hpos
  have hdl : ds.length = size := by
    have key : ∀ (cs : List C) (ds : List D), imAll cs = some ds → ds.length = cs.length := by
      intro cs
      induction cs with
      | nil => intro ds h; simp [imAll] at h; subst h; rfl
      | cons c cs ih =>
        intro ds h
        unfold imAll at h
        cases h1 : c.toIm with
        | none => simp [h1] at h
        | some d =>
          cases h2 : imAll cs with
          | none => simp [h1, h2] at h
          | some ds' => simp [h1, h2] at h; subst h; simp [ih ds' h2]
    rw [key _ _ hds]; simpa using hzl
  refine OpW_new hd ht h0 (fun K w I g tm hi => ?_) (fun r hr => by rw [List.eq_of_mem_replicate hr]; exact hdl) hN
  unfold zeroB at hz
  cases hinf : P.info? e with
  | none => simp [hinf] at hz
  | some inf =>
    cases hzz : inf.zero with
    | none => simp [hinf, hzz] at hz
    | some z =>
      simp [hinf, hzz] at hz
      have hsz' : inf.size = size := by simpa [sizeB, hinf] using hsz
      have hb' : inf.bytes = bytes := by simpa [hinf] using hb
      have hzc : z.cells.size = size := by rw [← hzl, ← hz]; simp
      obtain ⟨pl, hr, _, _⟩ := hi.ev_one hx
      have e1 : Act.eval ⟨tm, []⟩ x = .slice none 0 0 := hr
      have e2 := hi.ev_v hy
      have hrun := Go.Lib.run_append_nil_zeros (P := P) w ty tn o.type e inf z k kn hty htn hinf hzz n hn (by omega) (by simp only [maxLen] at hml; omega) (by rw [hb']; omega)
      have hge := grownCap_ge w n 0 e
      have hcm := grownCap_le_maxLen w n 0 e hml
      have hzr : ∀ m, (Builtin.zeroCells z.cells m).toList = (List.replicate m zs).flatten := by
        intro m
        have hfl : ∀ r ∈ List.replicate m zs, r.length = size := fun r hr => by rw [List.eq_of_mem_replicate hr]; exact hzl
        apply List.ext_getElem?
        intro j
        by_cases hj : j < m * size
        · have hq : j / size < m := Nat.div_lt_of_lt_mul (by rw [Nat.mul_comm]; exact hj)
          have hm : j % size < size := Nat.mod_lt _ hpos
          have hrowq : (List.replicate m zs)[j / size]? = some zs := by rw [List.getElem?_replicate, if_pos hq]
          have this := flat_row hfl hrowq
          have h2 : (List.replicate m zs).flatten[j]? = zs[j % size]? := by
            have t2 : (((List.replicate m zs).flatten.drop (j / size * size)).take size)[j % size]? = zs[j % size]? := by rw [this]
            rw [List.getElem?_take, if_pos hm, List.getElem?_drop, Nat.mul_comm, Nat.div_add_mod] at t2
            exact t2
          rw [h2, ← hz]
          simp [Builtin.zeroCells, hj, hzc, hm, getElem!_pos]
        · have h1 : (Builtin.zeroCells z.cells m).toList.length ≤ j := by simp [Builtin.zeroCells, hzc]; omega
          have h2 : (List.replicate m zs).flatten.length ≤ j := by rw [flat_len hfl]; simp; omega
          rw [List.getElem?_eq_none h1, List.getElem?_eq_none h2]
      refine ⟨.slice (some ⟨w.heap.size, 0, none⟩) n (grownCap w n 0 e), w.drew.alloc (.cells (Builtin.zeroCells z.cells n ++ Builtin.zeroCells z.cells (grownCap w n 0 e - n)) e), (List.replicate n zs).flatten, ?_, ?_, ?_, ?_⟩
      · simp [execOp, ho, resolve, invoke, builtin, e1, e2, hrun]
      · exact ⟨rfl, rfl, rfl, by simp, fun k hk _ => heap_alloc_old w.drew _ k hk⟩
      · rw [List.length_replicate]
        have hfl : ∀ r ∈ List.replicate n zs, r.length = size := fun r hr => by rw [List.eq_of_mem_replicate hr]; exact hzl
        refine ⟨by rw [flat_len hfl]; simp, .inr ⟨w.heap.size, _, _, rfl, Nat.le_refl _, heap_alloc_new w.drew _, hge, hcm, ?_, ?_⟩⟩
        · simp only [Array.size_append, size_zeroCells, hzc, ← Nat.add_mul]
          congr 1
          omega
        · rw [Array.toList_append, hzr]
          have : (List.replicate n zs).flatten.length = n * size := by rw [flat_len hfl]; simp
          rw [← this]
          exact List.take_left
      · have hrow : All2 (Rd w I) ds zs := imAll_rel (pl := ⟨false, 0, 0⟩) (g := g) (σ := σ) (tm := tm) hds (by simp) fun j c hj => by
          simp only [List.getElem?_map, Option.map_eq_some_iff] at hj
          obtain ⟨v, hv, rfl⟩ := hj
          have hpv := List.all_eq_true.1 hp v (List.mem_of_getElem? hv)
          have hor : scal v = true ∨ v = .slice none 0 0 := by
            simp only [Bool.or_eq_true] at hpv
            rcases hpv with h | h
            · exact .inl h
            · right; split at h <;> first | rfl | cases h
          exact ⟨v, hv, CR.ofZ hor⟩
        have key : ∀ n, All2 (Rd w I) (List.replicate n ds).flatten (List.replicate n zs).flatten := by
          intro n
          induction n with
          | zero => trivial
          | succ n ih => simp only [List.replicate_succ, List.flatten_cons]; exact hrow.append ih
        exact key n


/-- A prefix of what a slot owns, that takes its place. -/
theorem op_slice_take {o : Oper} {t x size : Nat} {ty e : TypeId} {hi : Option Operand} {rs : List (List D)} {h : Option Int} {N : St → Prop} (ho : o.op = .slice ty (.tmp x) none hi none) (hd : o.dst = some t) (ht : Nat.blt t σ.n = true)
    (hty : P.underlying ty = some (.slice e)) (hs : sizeB P e = some size) (hx : σ.slots x = .one (.ow ⟨e, none⟩ size 0 rs)) (h0 : ((σ.drop ⟨false, x, 0⟩).slots t).noOw = true) (hh : bndV σ hi = some h)
    (hb0 : 0 ≤ h.getD rs.length) (hb1 : h.getD rs.length ≤ rs.length) (hN : N ((σ.drop ⟨false, x, 0⟩).put t (.one (.ow ⟨e, none⟩ size 0 (rs.take (h.getD rs.length).toNat))))) : OpW P o N σ := by
  intro K w I g tm hi'
  have hp : σ.absAt ⟨false, x, 0⟩ = some (.ow ⟨e, none⟩ size 0 rs) := by simp [St.absAt, hx, SV.cells]
  obtain ⟨v, hv, hcr⟩ := hi'.at hp
  have hev : Act.eval ⟨tm, []⟩ (.tmp x) = v := by
    have hsh := hi'.shape x
    rw [hx] at hsh
    have h1 : (tm.getD x undef).oneCell' = true := hsh
    have hv' : (valCells (tm.getD x undef))[0]? = some v := by unfold realAt at hv; rw [if_neg (by simp)] at hv; exact hv
    show tm.getD x undef = v
    revert h1 hv'
    cases tm.getD x undef <;> simp [Value.oneCell', valCells, Value.cells]
  obtain ⟨xs, L', hor, hrl, hoc, hL⟩ := hcr.1
  obtain ⟨hall, rfl⟩ := hoc.im_iff
  have hd' := hi'.drop hp
  generalize hh' : (h.getD rs.length).toNat = n
  have hn : n ≤ rs.length := by omega
  have res : ∃ v', (execOp (Act.eval ⟨tm, []⟩) o).run P w = .ok (.value v') w ∧ w.ownsRow 0 e size v' n (xs.take (n * size)) ∧ v'.ownBlock = v.ownBlock := by
    rcases hor.2 with ⟨rfl, hn0⟩ | ⟨b, cap, cur, rfl, hb, hg, hnc, hcm, hcs, htake⟩
    · have hrun := run_sliceB (P := P) hty hs hi' (lo := none) (l := none) rfl hh none 0 0 (Nat.le_refl _) (by simp) (by simp; rw [hn0] at hb0; simpa using hb0) (by rw [hn0] at hb1; simpa using hb1)
      have hz0 : n = 0 := by omega
      have e0 : (h.getD ((0 : Nat) : Int)).toNat = 0 := by rw [hn0] at hb1; omega
      refine ⟨.slice none 0 0, ?_, ⟨by rw [hz0]; simp, .inl ⟨rfl, hz0⟩⟩, rfl⟩
      simp only [execOp, ho, hev, Option.map_none, Sem.run_bind] at hrun ⊢
      rw [hrun, e0]
      simp [sliced]
    · have hrun := run_sliceB (P := P) hty hs hi' (lo := none) (l := none) rfl hh (some ⟨b, 0, none⟩) rs.length cap hnc (by simp) (by simpa using hb0) hb1
      refine ⟨.slice (some ⟨b, 0, none⟩) n cap, ?_, ⟨?_, .inr ⟨b, cap, cur, rfl, hb, hg, by omega, hcm, hcs, ?_⟩⟩, rfl⟩
      · simp only [execOp, ho, hev, Option.map_none, Sem.run_bind] at hrun ⊢
        rw [hrun, hh']
        simp [sliced, addr_add]
      · rw [List.length_take, hor.1]
        have := Nat.mul_le_mul_right size hn
        omega
      · rw [← htake, List.take_take]
        congr 1
        have := Nat.mul_le_mul_right size hn
        omega
  obtain ⟨v', hrun, hrow, hblk⟩ := res
  rw [hrun]
  simp only [Oper.upon, Act.put, hd]
  have hroc : ROT (RO w I 0) w I e size (rs.take n) v' v'.ownBlock.toList := by
    refine ⟨xs.take (n * size), [], by rw [List.length_take, Nat.min_eq_left hn]; exact hrow, fun r hr => hrl r (List.mem_of_mem_take hr), ?_, by simp⟩
    have hfl : (rs.take n).flatten = rs.flatten.take (n * size) := by
      have h1 : (rs.take n).flatten.length = n * size := by rw [flat_len (fun r hr => hrl r (List.mem_of_mem_take hr)), List.length_take, Nat.min_eq_left hn]
      have h2 : rs.flatten = (rs.take n).flatten ++ (rs.drop n).flatten := by rw [← List.flatten_append, List.take_append_drop]
      rw [h2, ← h1]
      exact List.take_left.symm
    rw [hfl]
    exact OC.im (hall.take (n * size))
  obtain ⟨g', hfin⟩ := hd'.take (t := t) (by rw [show (σ.drop ⟨false, x, 0⟩).n = σ.n from map_setP_n ..]; exact Nat.le_of_ble_eq_true ht) h0 (L := v'.ownBlock.toList) (by cases v'.ownBlock <;> simp) (fun b hb => by
    have hbL : b ∈ g.L ⟨false, x, 0⟩ := by
      rw [hL, ← hblk]; simpa using hb
    obtain ⟨o1, o2, o3⟩ := hi'.own _ b hbL
    refine ⟨o1, fun q hq => ?_, fun o ho he => ?_, o3⟩
    · simp only at hq
      split at hq
      · cases hq
      · rename_i hne; exact hne (hi'.dis q _ b hq hbL)
    · have hos : (σ.boxes o).isSome = true := by
        have := ho
        rw [St.drop, map_setP_isSome] at this
        exact this
      exact (hi'.boxi o hos).2.1 _ (he ▸ hbL)) (e := ⟨e, none⟩) rfl hroc
  exact ⟨trivial, _, I, g', by rw [hh'] at hN; exact hN, hfin⟩

/-- A call that is handed the nil slice and a whole number. -/
theorem op_call_nl {o : Oper} {t : Nat} {f : FuncId} {x y : Operand} {tys : Array TypeId} {fn : Func} {k : IntKind} {n : Int} {r : SV} {N : St → Prop} (ho : o.op = .call { callee := .value (.func f), args := #[x, y], argTypes := tys }) (hd : o.dst = some t) (ht : Nat.blt t σ.n = true) (h0 : (σ.slots t).noOw = true)
    (hf : P.funcs[f]? = some fn) (hb : fn.body.isSome = true) (hnm : (fn.name == "runtime.NumGoroutine") = false) (hx : σ.ev x = .one .nl) (hy : σ.ev y = .one (.d (.v (.int k n)))) (hF : FnNl P f k n r) (hN : N (σ.put t r)) : OpW P o N σ := by
  intro K w I g tm hi
  rw [run_callFn (xs := [x, y]) ho hf hb hnm]
  simp only [Oper.upon]
  obtain ⟨pl, hr, _, _⟩ := hi.ev_one hx
  have e1 : Act.eval ⟨tm, []⟩ x = .slice none 0 0 := hr
  have e2 := hi.ev_v hy
  have hcall := hF w
  simp only [List.map_cons, List.map_nil, e1, e2]
  refine Calls.mono hcall ?_
  rintro e w' ⟨v, rfl, hw, J, L, hJ, h1, h2, h3, hs, hc⟩
  simp only [Act.put, hd]
  exact ⟨trivial, _, _, _, hN, hi.result hw (Nat.le_of_ble_eq_true ht) h0 (fun b hb => ⟨(hJ b hb).1, fun hlt => absurd ((hJ b hb).2 hlt).1 (by simp)⟩) h1 h2 h3 hs hc⟩


/-! ### append in the text's order -/
theorem op_append_ov {o : Oper} {t x size bytes : Nat} {ty e : TypeId} {y : Operand} {rs rs' : List (List D)} {c : C} {zs : List Value} {N : St → Prop} (ho : o.op = .call { callee := .builtin .append, args := #[.tmp x, y], argTypes := #[ty, ty] }) (hd : o.dst = some t) (ht : Nat.blt t σ.n = true) (hty : P.underlying ty = some (.slice e)) (hsz : sizeB P e = some size) (hb : (P.info? e).map (·.bytes) = some bytes) (hz : zeroB P e = some zs) (hzl : Nat.beq zs.length size = true) (hpos : Nat.blt 0 size = true) {p : Pl} (hx : σ.slots x = .one (.vw p true rs)) (hp : σ.absAt p = some (.ow ⟨e, none⟩ size 0 rs)) (h0 : ((σ.drop p).slots t).noOw = true)
    (hy : σ.ev y = .one c) (hc : c.rows = some rs') (hok : c.isIm = true ∨ ∀ r ∈ rs', ∀ d ∈ r, ∃ v, d = .v v) (hl : ∀ r ∈ rs', r.length = size)
    (hbd : (rs.length + rs'.length) * bytes ≤ 140737488355328) (hml : rs.length + rs'.length ≤ maxLen) (hN : N ((σ.drop p).put t (.one (.ow ⟨e, none⟩ size 0 (rs ++ rs'))))) : OpW P o N σ := by
  refine op_append ho hd ht hty hsz hb hz hzl hpos hp (fun K w I g tm hi => ?_) h0 hy hc hok hl hbd hml hN
  obtain ⟨pl, hr, _, _⟩ := hi.ev_one (x := .tmp x) (c := .vw p true rs) hx
  exact (hr.2 rfl).1
theorem op_append_oo {o : Oper} {t x size bytes : Nat} {ty e : TypeId} {y : Operand} {rs rs' : List (List D)} {c : C} {zs : List Value} {N : St → Prop} (ho : o.op = .call { callee := .builtin .append, args := #[.tmp x, y], argTypes := #[ty, ty] }) (hd : o.dst = some t) (ht : Nat.blt t σ.n = true) (hty : P.underlying ty = some (.slice e)) (hsz : sizeB P e = some size) (hb : (P.info? e).map (·.bytes) = some bytes) (hz : zeroB P e = some zs) (hzl : Nat.beq zs.length size = true) (hpos : Nat.blt 0 size = true) (hx : σ.slots x = .one (.ow ⟨e, none⟩ size 0 rs)) (h0 : ((σ.drop ⟨false, x, 0⟩).slots t).noOw = true)
    (hy : σ.ev y = .one c) (hc : c.rows = some rs') (hok : c.isIm = true ∨ ∀ r ∈ rs', ∀ d ∈ r, ∃ v, d = .v v) (hl : ∀ r ∈ rs', r.length = size)
    (hbd : (rs.length + rs'.length) * bytes ≤ 140737488355328) (hml : rs.length + rs'.length ≤ maxLen) (hN : N ((σ.drop ⟨false, x, 0⟩).put t (.one (.ow ⟨e, none⟩ size 0 (rs ++ rs'))))) : OpW P o N σ := by
  refine op_append ho hd ht hty hsz hb hz hzl hpos (p := ⟨false, x, 0⟩) (by simp [St.absAt, hx, SV.cells]) (fun K w I g tm hi => ?_) h0 hy hc hok hl hbd hml hN
  have hs := hi.shape x
  rw [hx] at hs
  have h1 : (tm.getD x undef).oneCell' = true := hs
  unfold realAt
  rw [if_neg (by simp)]
  revert h1
  cases tm.getD x undef <;> simp [Value.oneCell', valCells, Value.cells]

/-! ### Lists of byte slices -/
def bbD (xss : List (List Int)) : List (List D) := xss.map fun x => [.sl (bD x)]
theorem bbD_len (xss : List (List Int)) : (bbD xss).length = xss.length := by simp [bbD]
theorem bbD_getD {xss : List (List Int)} {i : Nat} (h : i < xss.length) : (bbD xss).getD i [] = [.sl (bD (xss.getD i []))] := by
  simp [bbD, List.getD_eq_getElem?_getD, h]
theorem op_index_bb {o : Oper} {t : Nat} {ty e0 : TypeId} {x y : Operand} {xss : List (List Int)} {kk : IntKind} {i : Int} {N : St → Prop} (ho : o.op = .indexAddr ty x y) (hd : o.dst = some t) (ht : Nat.blt t σ.n = true) (h0 : (σ.slots t).noOw = true) (hty : P.underlying ty = some (.slice e0)) (hs : sizeB P e0 = some 1)
    (hx : σ.ev x = .one (.d (.sl (bbD xss)))) (hy : σ.ev y = .one (.d (.v (.int kk i)))) (hi0 : 0 ≤ i) (hi1 : i < xss.length) (hN : N (σ.put t (.one (.d (.p [.sl (bD (xss.getD i.toNat []))]))))) : OpW P o N σ := by
  have hr : (bbD xss).getD i.toNat [] = [.sl (bD (xss.getD i.toNat []))] := bbD_getD (by omega)
  refine op_index_d ho hd ht h0 hty hs hx hy hi0 (by rw [bbD_len]; exact hi1) (by rw [hr]; rfl) ?_
  rw [hr]; exact hN
/-- A call, the arguments up to an equation. -/
theorem op_callE {o : Oper} {t : Nat} {f : FuncId} {xs : List Operand} {tys : Array TypeId} {fn : Func} {args args' : List (Bool × List D)} {r : SV} {N : St → Prop} (ho : o.op = .call { callee := .value (.func f), args := xs.toArray, argTypes := tys }) (hd : o.dst = some t) (ht : Nat.blt t σ.n = true) (h0 : (σ.slots t).noOw = true)
    (hf : P.funcs[f]? = some fn) (hb : fn.body.isSome = true) (hnm : (fn.name == "runtime.NumGoroutine") = false) (hargs : xs.mapM (fun x => (σ.evv x).toA) = some args) (hF : FnOK P f false args' r) (he : args = args') (hN : N (σ.put t r)) : OpW P o N σ := by
  subst he; exact op_call ho hd ht h0 hf hb hnm hargs hF hN


/-! ### Which places a drawn region appends to -/
def movesTo (ops : List Oper) (x : Nat) : List Pl :=
  match ops with
  | [] => []
  | o :: r => (match o.dst, o.op with
    | some d, .move (.tmp y) => bif Nat.beq d x then [⟨false, y, 0⟩] else []
    | _, _ => []) ++ movesTo r x
def cleanGo (all : List Oper) : List Oper → List Pl
  | [] => []
  | o :: r => (match o.op with
    | .call c => match c.callee, c.args.toList with
      | .builtin .append, .tmp x :: _ => ⟨false, x, 0⟩ :: movesTo all x
      | _, _ => []
    | _ => []) ++ cleanGo all r
def cleanOf (ops : List Oper) : List Pl := cleanGo ops ops
theorem W_draw0 {id : Nat} {ops : List Oper} {Q : Exit → St → Prop} (_ : (cleanOf ops).isEmpty = true) (hedge : edgeGo 0 ops = true) (h : RW P ops Q [] [] ops σ) : W P (.region id ops.toArray true) Q σ := W_draw hedge h
theorem W_drawA {id : Nat} {ops : List Oper} {Q : Exit → St → Prop} (hedge : edgeGo 0 ops = true) (h : RW P ops Q (cleanOf ops) [] ops (σ.kil (cleanOf ops))) : W P (.region id ops.toArray true) Q σ := W_drawK _ hedge h


/-- One result, a struct in a box. -/
theorem end_cell {fn : Func} {alias : Bool} {t o n : Nat} {ty : TypeId} {cs : List C} {r : SV} {e : Exit} (he : finX e = true) (hr : fn.results.toList = [.cell t ty]) (hs : σ.slots t = .one (.bp o 0)) (hb : σ.boxes o = some cs) (hag : aggB P ty = some true) (hsz : sizeB P ty = some n) (hn : n = cs.length)
    (hok : ∀ c ∈ cs, retC alias c) (heq : SV.ag cs = r) : RetQ P fn alias r e σ := by
  subst heq
  subst hn
  have hidx : ∀ (i : Nat) (l : List C), (idx true o i l).map (·.2) = l ∧ (∀ x ∈ idx true o i l, x.1.c ≥ i) ∧ ((idx true o i l).map (·.1)).Nodup := by
    intro i l
    induction l generalizing i with
    | nil => exact ⟨rfl, (by intro x hx; cases hx), List.nodup_nil⟩
    | cons c l ih =>
      obtain ⟨h1, h2, h3⟩ := ih (i + 1)
      refine ⟨by simp [idx, h1], fun x hx => ?_, ?_⟩
      · simp only [idx, List.mem_cons] at hx
        rcases hx with rfl | hx
        · exact Nat.le_refl _
        · exact Nat.le_of_succ_le (h2 x hx)
      · simp only [idx, List.map_cons, List.nodup_cons]
        refine ⟨fun hm => ?_, h3⟩
        obtain ⟨x, hx, hxe⟩ := List.mem_map.1 hm
        have := h2 x hx
        rw [hxe] at this
        simp at this
        omega
  obtain ⟨h1, _, h3⟩ := hidx 0 cs
  refine retQ he ⟨[(true, idx true o 0 cs)], ?_, ?_, ?_, ?_⟩
  · rw [hr]; simp [resOf, hs, hb, hag, hsz]
  · simp only [packS, h1]
  · intro x hx y hy
    simp at hx
    subst hx
    refine hok y.2 ?_
    rw [← h1]
    exact List.mem_map.2 ⟨y, hy, rfl⟩
  · simpa using h3

end Go.AX
