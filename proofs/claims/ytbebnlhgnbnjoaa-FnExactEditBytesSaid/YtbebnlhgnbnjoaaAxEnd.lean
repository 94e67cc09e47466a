/- Ends of functions; append inside drawn regions; bytes. -/
import Derived.Test.YtbebnlhgnbnjoaaAxApp
set_option linter.unusedVariables false
set_option linter.unusedSimpArgs false
namespace Go.AX

variable {P : Program} {σ : St}

theorem W_weakQ {c : Code} {Q : Exit → St → Prop} (h : W P c (fun e σ => ∃ σ', Wk σ σ' ∧ Q e σ') σ) : W P c Q σ := by
  intro K w I g tm hi
  refine wp_mono (h K w I g tm hi) ?_
  rintro e a w' ⟨hd, σ1, I1, g1, ⟨σ2, hw, q⟩, r⟩
  obtain ⟨I2, g2, r2⟩ := hw K w' I1 g1 a.tmps r
  exact ⟨hd, σ2, I2, g2, q, r2⟩
/-- What a body must end with. -/
def EndQ (P : Program) (fn : Func) (alias : Bool) (r : SV) (e : Exit) (σ : St) : Prop := ∃ σ', Wk σ σ' ∧ RetQ P fn alias r e σ'
theorem FnOK_body {f : FuncId} {fn : Func} {c : Code} {alias : Bool} {args : List (Bool × List D)} {r : SV} (hf : P.funcs[f]? = some fn) (hb : fn.body = some c) (hn : Nat.ble args.length fn.ntmps = true)
    (hW : W P c (EndQ P fn alias r) (St.enter fn.ntmps args)) : FnOK P f alias args r := FnOK_of hf hb hn (W_weakQ hW)

def finX : Exit → Bool
  | .normal | .ret => true
  | _ => false
theorem retQ {fn : Func} {alias : Bool} {r : SV} {e : Exit} (he : finX e = true) (h : RetS P fn alias r σ) : RetQ P fn alias r e σ := by
  cases e <;> first | exact h | cases he
/-- One result, in a slot. -/
theorem end_one {fn : Func} {alias : Bool} {t : Nat} {c c' : C} {e : Exit} (he : finX e = true) (hr : fn.results.toList = [.tmp t]) (hs : σ.slots t = .one c) (hc : retC alias c) (heq : c = c') : EndQ P fn alias (.one c') e σ := by
  subst heq
  refine ⟨σ, Wk.refl σ, retQ he ⟨[(false, [(⟨false, t, 0⟩, c)])], ?_, rfl, ?_, by simp⟩⟩
  · rw [hr]; simp [resOf, hs]
  · intro x hx y hy
    simp at hx
    subst hx
    simp at hy
    subst hy
    exact hc
theorem end_v {fn : Func} {alias : Bool} {t : Nat} {v v' : Value} {e : Exit} (he : finX e = true) (hr : fn.results.toList = [.tmp t]) (hs : σ.slots t = .one (.d (.v v))) (heq : v = v') : EndQ P fn alias (.one (.d (.v v'))) e σ :=
  end_one he hr hs (.inr ⟨v, rfl⟩) (by rw [heq])
/-- One result, in a slot that another slot owns. -/
theorem end_vw {fn : Func} {alias : Bool} {t q : Nat} {ty : Tag} {size k : Nat} {rs rs' rs1 : List (List D)} {e : Exit} (he : finX e = true) (hr : fn.results.toList = [.tmp t]) (hs : σ.slots t = .one (.vw ⟨false, q, 0⟩ true rs)) (hq : σ.slots q = .one (.ow ty size k rs1))
    (hrs : rs1 = rs) (hpin : ty.pin = none) (hok : alias = true ∨ ∀ r ∈ rs', ∀ d ∈ r, okD k d) (heq : rs = rs') : EndQ P fn alias (.one (.ow ty size k rs')) e σ := by
  subst hrs
  subst heq
  have hne : t ≠ q := fun h => by rw [h, hq] at hs; cases hs
  have hp : σ.absAt ⟨false, q, 0⟩ = some (.ow ty size k rs1) := by simp [St.absAt, hq, SV.cells]
  have hv : σ.absAt ⟨false, t, 0⟩ = some (.vw ⟨false, q, 0⟩ true rs1) := by simp [St.absAt, hs, SV.cells]
  refine ⟨_, Wk_give hp hv, retQ he ⟨[(false, [(⟨false, t, 0⟩, .ow ty size k rs1)])], ?_, rfl, ?_, by simp⟩⟩
  · rw [hr]
    have : (σ.give ⟨false, q, 0⟩ ⟨false, t, 0⟩ ty size k rs1).slots t = .one (.ow ty size k rs1) := by
      simp [St.give, St.setP, St.map, hs, SV.map, C.ren, SV.setC, beq_ne hne]
    simp [resOf, this]
  · intro x hx y hy
    simp at hx
    subst hx
    simp at hy
    subst hy
    exact ⟨hok, hpin⟩

/-! ### append in a drawn region -/
theorem loc_slot {ts : List Nat} {bs : List (Nat × Option (List C))} {s0 : Nat → SV} {b0 : Nat → Option (List C)} {t : Nat} (h : t ∈ ts) : (σ.loc (ts.map fun t => (t, σ.slots t)) bs s0 b0).slots t = σ.slots t := by
  show lookO (ts.map fun t => (t, σ.slots t)) t (s0 t) = σ.slots t
  induction ts with
  | nil => cases h
  | cons a r ih =>
    simp only [List.map_cons, lookO]
    by_cases e : t = a
    · subst e; simp
    · rw [beq_ne e, cond_false]
      exact ih (by simpa [e] using h)
theorem ev_const (σ σ' : St) (v : Value) : σ.ev (.const v) = σ'.ev (.const v) := by
  unfold St.ev
  split <;> first | (rename_i h; cases h; done) | rfl | (rename_i h; cases h; rfl) | skip
  all_goals (first | rfl | (split <;> simp_all))
theorem loc_ev {ts : List Nat} {bs : List (Nat × Option (List C))} {s0 : Nat → SV} {b0 : Nat → Option (List C)} {y : Operand} (h : ∀ t, y = .tmp t → t ∈ ts) : (σ.loc (ts.map fun t => (t, σ.slots t)) bs s0 b0).ev y = σ.ev y := by
  cases y with
  | tmp t => exact loc_slot (h t rfl)
  | const v => exact ev_const _ _ v
  | global n => rfl
  | func f => rfl
theorem opTs_mem {x : Nat} : ∀ {l : List Operand}, Operand.tmp x ∈ l → x ∈ opTs l
  | .tmp t :: r, h => by
    rcases List.mem_cons.1 h with h | h
    · cases h; simp [opTs]
    · simp only [opTs, List.mem_cons]; exact .inr (opTs_mem h)
  | .const v :: r, h => by
    rcases List.mem_cons.1 h with h | h
    · cases h
    · exact opTs_mem (l := r) h
  | .global n :: r, h => by
    rcases List.mem_cons.1 h with h | h
    · cases h
    · exact opTs_mem (l := r) h
  | .func f :: r, h => by
    rcases List.mem_cons.1 h with h | h
    · cases h
    · exact opTs_mem (l := r) h

variable {ops : List Oper} {Q : Exit → St → Prop} {ps : List Pl} {acc : List Eff} {l : List Oper}

theorem RW_apOw {o : Oper} {t x size bytes : Nat} {ty e : TypeId} {y : Operand} {rs rs' : List (List D)} {c : C} {zs : List Value} (hg : o.guard = none) (ho : o.op = .call { callee := .builtin .append, args := #[.tmp x, y], argTypes := #[ty, ty] }) (hd : o.dst = some t) (ht : Nat.blt t σ.n = true) (hty : P.underlying ty = some (.slice e)) (hsz : sizeB P e = some size) (hb : (P.info? e).map (·.bytes) = some bytes) (hz : zeroB P e = some zs) (hzl : Nat.beq zs.length size = true) (hpos : Nat.blt 0 size = true) (hx : σ.slots x = .one (.ow ⟨e, none⟩ size 0 rs)) (hxt : Nat.beq x t = false) (h0 : (σ.slots t).noOw = true)
    (hy : σ.ev y = .one c) (hc : c.rows = some rs') (hok : c.isIm = true ∨ ∀ r ∈ rs', ∀ d ∈ r, ∃ v, d = .v v) (hl : ∀ r ∈ rs', r.length = size)
    (hbd : (rs.length + rs'.length) * bytes ≤ 140737488355328) (hml : rs.length + rs'.length ≤ maxLen)
    (hN : RW P ops Q ps (acc ++ [⟨rdS ops o σ, [], [(t, .one (.ow ⟨e, none⟩ size 0 (rs ++ rs'))), (x, .one .any)], [], [(⟨false, x, 0⟩, [x])]⟩]) l (σ.over [(t, .one (.ow ⟨e, none⟩ size 0 (rs ++ rs'))), (x, .one .any)] [])) : RW P ops Q ps acc (o :: l) σ := by
  have mem : ∀ z, z ∈ o.dst.toList ++ (guardT ops o ++ opTs (opdsOf o.op)) ↔ z ∈ [t] ++ (guardT ops o ++ opTs [.tmp x, y]) := by
    intro z; rw [hd, ho]; rfl
  refine RW_cons (e := ⟨rdS ops o σ, [], [(t, .one (.ow ⟨e, none⟩ size 0 (rs ++ rs'))), (x, .one .any)], [], [(⟨false, x, 0⟩, [x])]⟩) (Loc_of (fun _ _ _ tm _ _ _ _ _ => wanted_none hg tm) fun s0 b0 hnr => ?_) (agr_of rfl (bs := []) rfl) hN
  have ls : ∀ {z}, z ∈ [t] ++ (guardT ops o ++ opTs [.tmp x, y]) → (σ.loc (rdS ops o σ) [] s0 b0).slots z = σ.slots z := fun h => loc_slot ((mem _).2 h)
  have hne : t ≠ x := fun h => by rw [h, Nat.beq_refl] at hxt; cases hxt
  refine op_append_ow ho hd ht hty hsz hb hz hzl hpos (by rw [ls (by simp [opTs])]; exact hx) (hnr (⟨false, x, 0⟩, [x]) (List.mem_singleton.2 rfl)) ?_ (c := c) ?_ hc hok hl hbd hml rfl
  · rw [St.put_other _ _ _ _ hne, ls (by simp)]; exact h0
  · rw [← hy]
    refine loc_ev fun z hz => (mem z).2 ?_
    subst hz
    simp only [List.mem_append]
    exact .inr (.inr (opTs_mem (by simp)))
theorem RW_apVw {o : Oper} {t x size bytes : Nat} {ty e : TypeId} {y : Operand} {rs rs' : List (List D)} {c : C} {zs : List Value} (hg : o.guard = none) (ho : o.op = .call { callee := .builtin .append, args := #[.tmp x, y], argTypes := #[ty, ty] }) (hd : o.dst = some t) (ht : Nat.blt t σ.n = true) (hty : P.underlying ty = some (.slice e)) (hsz : sizeB P e = some size) (hb : (P.info? e).map (·.bytes) = some bytes) (hz : zeroB P e = some zs) (hzl : Nat.beq zs.length size = true) (hpos : Nat.blt 0 size = true) {q : Nat} (hq : σ.slots q = .one (.ow ⟨e, none⟩ size 0 rs)) (hx : σ.slots x = .one (.vw ⟨false, q, 0⟩ true rs)) (hxt : Nat.beq x t = false) (hqt : Nat.beq q t = false) (h0 : (σ.slots t).noOw = true)
    (hy : σ.ev y = .one c) (hc : c.rows = some rs') (hok : c.isIm = true ∨ ∀ r ∈ rs', ∀ d ∈ r, ∃ v, d = .v v) (hl : ∀ r ∈ rs', r.length = size)
    (hbd : (rs.length + rs'.length) * bytes ≤ 140737488355328) (hml : rs.length + rs'.length ≤ maxLen)
    (hN : RW P ops Q ps (acc ++ [⟨(q, σ.slots q) :: rdS ops o σ, [], [(t, .one (.ow ⟨e, none⟩ size 0 (rs ++ rs'))), (x, .one .any), (q, .one .any)], [], [(⟨false, q, 0⟩, [x])]⟩]) l (σ.over [(t, .one (.ow ⟨e, none⟩ size 0 (rs ++ rs'))), (x, .one .any), (q, .one .any)] [])) : RW P ops Q ps acc (o :: l) σ := by
  have mem : ∀ z, z ∈ q :: (o.dst.toList ++ (guardT ops o ++ opTs (opdsOf o.op))) ↔ z ∈ q :: ([t] ++ (guardT ops o ++ opTs [.tmp x, y])) := by
    intro z; rw [hd, ho]; rfl
  refine RW_cons (e := ⟨(q, σ.slots q) :: rdS ops o σ, [], [(t, .one (.ow ⟨e, none⟩ size 0 (rs ++ rs'))), (x, .one .any), (q, .one .any)], [], [(⟨false, q, 0⟩, [x])]⟩) (Loc_of (fun _ _ _ tm _ _ _ _ _ => wanted_none hg tm) fun s0 b0 hnr => ?_) (agr_of (us := q :: (o.dst.toList ++ (guardT ops o ++ opTs (opdsOf o.op)))) rfl (bs := []) rfl) hN
  have ls : ∀ {z}, z ∈ q :: ([t] ++ (guardT ops o ++ opTs [.tmp x, y])) → (σ.loc ((q, σ.slots q) :: rdS ops o σ) [] s0 b0).slots z = σ.slots z := fun {z} h => loc_slot (ts := q :: (o.dst.toList ++ (guardT ops o ++ opTs (opdsOf o.op)))) ((mem _).2 h)
  have hne : t ≠ x := fun h => by rw [h, Nat.beq_refl] at hxt; cases hxt
  have hne2 : t ≠ q := fun h => by rw [h, Nat.beq_refl] at hqt; cases hqt
  refine op_append_vw ho hd ht hty hsz hb hz hzl hpos (q := q) (by rw [ls (by simp)]; exact hq) (by rw [ls (by simp [opTs])]; exact hx) (hnr (⟨false, q, 0⟩, [x]) (List.mem_singleton.2 rfl)) ?_ (c := c) ?_ hc hok hl hbd hml rfl
  · rw [St.put_other _ _ _ _ hne, St.put_other _ _ _ _ hne2, ls (by simp)]; exact h0
  · rw [← hy]
    refine loc_ev (ts := q :: (o.dst.toList ++ (guardT ops o ++ opTs (opdsOf o.op)))) fun z hz => (mem z).2 ?_
    subst hz
    simp only [List.mem_append, List.mem_cons]
    exact .inr (.inr (.inr (opTs_mem (by simp))))

/-! ### Which rule fits -/
def kindOf : Op → Nat
  | .move _ | .assign _ => 0
  | .load .. => 1
  | .binOp op .. => match op with
    | .shl | .shr => 3
    | _ => 2
  | .unOp .. => 4
  | .convert .. => 5
  | .pick .. => 7
  | .box .. | .alloc _ => 8
  | .build .. | .buildSlice .. => 9
  | .extract .. => 10
  | .store .. => 11
  | .fieldAddr .. => 12
  | .indexAddr .. => 13
  | .nilCheck _ => 14
  | .slice .. => 15
  | .makeSlice .. => 18
  | .call c => match c.callee with
    | .builtin .len => 6
    | .builtin .append => 17
    | .value (.func _) => 16
    | _ => 19
  | _ => 99
theorem gate (k : Nat) {o : Oper} {N : St → Prop} (_ : Nat.beq (kindOf o.op) k = true) (h : OpW P o N σ) : OpW P o N σ := h
theorem gateR (k : Nat) {o : Oper} (_ : Nat.beq (kindOf o.op) k = true) (h : RW P ops Q ps acc (o :: l) σ) : RW P ops Q ps acc (o :: l) σ := h
theorem W_condT {x : Operand} {a b : Code} {t : Bool} (hx : σ.ev x = .one (.d (.v (.bool t)))) (ht : t = true) (ha : W P a Q σ) : W P (.cond x a b) Q σ := W_cond hx (fun _ => ha) fun h => by rw [ht] at h; cases h
theorem W_condF {x : Operand} {a b : Code} {t : Bool} (hx : σ.ev x = .one (.d (.v (.bool t)))) (ht : t = false) (hb : W P b Q σ) : W P (.cond x a b) Q σ := W_cond hx (fun h => by rw [ht] at h; cases h) fun _ => hb

/-! ### Bytes -/
def bD (xs : List Int) : List (List D) := xs.map fun x => [.v (.int .u8 x)]
theorem bD_len (xs : List Int) : (bD xs).length = xs.length := by simp [bD]
theorem bD_append (xs ys : List Int) : bD xs ++ bD ys = bD (xs ++ ys) := by simp [bD]
theorem bD_row {xs : List Int} : ∀ r ∈ bD xs, r.length = 1 := by
  intro r hr
  obtain ⟨x, _, rfl⟩ := List.mem_map.1 hr
  rfl
theorem bD_v {xs : List Int} : ∀ r ∈ bD xs, ∀ d ∈ r, ∃ v, d = .v v := by
  intro r hr d hd
  obtain ⟨x, _, rfl⟩ := List.mem_map.1 hr
  simp at hd
  exact ⟨_, hd⟩
theorem bD_ok {xs : List Int} {k : Nat} : ∀ r ∈ bD xs, ∀ d ∈ r, okD k d := by
  intro r hr d hd
  obtain ⟨v, rfl⟩ := bD_v r hr d hd
  cases k <;> trivial

end Go.AX
