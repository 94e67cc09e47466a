/- A part of the proof of the statement in the row text. -/
import Derived.Test.YtojaiockbpcilaaLxRun2
/- Is a slice nil? -/
set_option linter.unusedVariables false
set_option linter.unusedSimpArgs false
namespace Go.LX

variable {P : Program} {σ : St}

theorem run_eqNil {ty : TypeId} (h : isSlB P ty = true) (A : Option Addr) (n c : Nat) (w : World) : (Op.equalIn Op.maxDepth ty (.slice A n c) (.slice none 0 0)).run P w = .ok A.isNone w := by
  unfold isSlB at h
  obtain ⟨e, he⟩ := Option.isSome_iff_exists.1 h
  have he := elemB_ok he
  obtain ⟨d, hd⟩ : ∃ d, Op.maxDepth = d + 1 := ⟨9999, rfl⟩
  rw [hd]
  cases A <;> simp [Op.equalIn, run_underlying he]
def nilOp (o : Op) : Option (Bool × TypeId × Operand) := match o with
  | .binOp .eql ty x (.const (.slice none 0 0)) _ => some (true, ty, x)
  | .binOp .neq ty x (.const (.slice none 0 0)) _ => some (false, ty, x)
  | _ => none
theorem op_nil [Glob] {o : Oper} {t : Nat} {pol : Bool} {ty : TypeId} {x : Operand} {c : C} {e : Ty} {xs : List e.T} {N : St → Prop} (ho : nilOp o.op = some (pol, ty, x)) (hd : o.dst = some t) (ht : Nat.blt t σ.n = true) (hty : isSlB P ty = true) (hx : σ.ev x = .one c) (hc : slC σ.objs c = some ⟨e, xs⟩)
    (hN : ∀ b : Bool, (b = true → xs = []) → N (σ.over [(t, .one (.d .bo (bif pol then b else !b)))] [])) : OpW P o N σ := by
  intro K w I g tm hi
  have hrt := CR.slC hi (hi.ev_one hx).1 hc
  obtain ⟨A, cap, hu, h1, h2, h3⟩ := hrt
  simp only [List.cons.injEq, and_true] at hu
  have hb : A.isNone = true → xs = [] := by
    intro hA
    cases xs with
    | nil => rfl
    | cons y ys =>
      obtain ⟨b, f, vs, hAs, _⟩ := h3 0 y rfl
      rw [hAs] at hA; cases hA
  have hrun : (execOp (Act.eval ⟨tm, []⟩) o).run P w = .ok (.value (.bool (bif pol then A.isNone else !A.isNone))) w := by
    have hev : Act.eval ⟨tm, []⟩ (.const (.slice none 0 0)) = .slice none 0 0 := rfl
    unfold nilOp at ho
    split at ho
    · rename_i h
      cases ho
      simp [execOp, h, eqGuard, binOp, hu, hev, Op.equal, run_eqNil hty, bne]
    · rename_i h
      cases ho
      simp [execOp, h, eqGuard, binOp, hu, hev, Op.equal, run_eqNil hty, bne]
    · cases ho
  rw [hrun]
  simp only [Oper.upon, Act.put, hd]
  refine ⟨trivial, _, I, g, hN A.isNone hb, ?_⟩
  rw [← up_put]
  refine hi.put (Nat.le_of_ble_eq_true ht) rfl fun i c hc => ?_
  obtain ⟨rfl, rfl⟩ := one_cell hc
  exact ⟨_, rfl, rfl⟩
end Go.LX

/- append, literals and make, as a walk meets them. -/
set_option linter.unusedVariables false
set_option linter.unusedSimpArgs false
namespace Go.LX

variable {P : Program} {σ : St}

def bytesB (P : Program) (e : TypeId) : Option Nat := match P.info? e with
  | some inf => match inf.bytes with
    | 0 => some 0
    | n + 1 => some (n + 1)
  | none => none
def prs : List Ty → Ty
  | [] => .un
  | [a] => a
  | a :: r => .pr a (prs r)
/-- A type's data. -/
def tyOf (P : Program) : Nat → TypeId → Option Ty
  | 0, _ => none
  | n + 1, e => match P.underlying e with
    | some (.int .u8) => some .u8
    | some (.int k) => some (.i k)
    | some .bool => some .bo
    | some .string => some .st
    | some (.slice e') => match tyOf P n e' with
      | some t => some (.sl t)
      | none => none
    | some (.struct fs) => match fs.toList.mapM fun f => tyOf P n f.type with
      | some ts => some (prs ts)
      | none => none
    | _ => none
theorem OpW.out [Glob] {o : Oper} {N : St → Prop} {X Y : St} (hw : Wk X Y) (h : OpW P o (fun s => s = X) σ) (hN : N Y) : OpW P o N σ := by
  intro K w I g tm hi
  refine upon_mono ?_ (fun e a w' h => h.elim) (h K w I g tm hi)
  rintro a w' ⟨hd, σ', I', g', rfl, r⟩
  obtain ⟨I2, g2, r2⟩ := hw K w' I' g' a.tmps r
  exact ⟨hd, Y, I2, g2, hN, r2⟩

section
variable {o : Oper} {t' id k bytes : Nat} {x y : Operand} {ty e : TypeId} {t : Ty} {dp : Bool} {cy : C} {xs ys : List t.T} {N : St → Prop}
theorem apOS [Glob] (ho : o.op = .call { callee := .builtin .append, args := #[x, y], argTypes := #[ty, ty] }) (hd : o.dst = some t') (ht : Nat.blt t' σ.n = true) (hx : σ.ev x = .one (.rf k .ar)) (hq : σ.objs k = some (.rows e t dp xs)) (hy : σ.ev y = .one cy) (hs : slC σ.objs cy = some ⟨t, ys⟩) (hk : (t.flat || (!dp && frzB σ.objs cy)) = true)
    (hby : bytesB P e = some bytes) (hT : tyB P ty e t.w bytes = true) (hid : newO (σ.over [] [(k, some .dead)]).objs t' = some id) (hbd : (xs.length + ys.length) * bytes ≤ 140737488355328) (hml : xs.length + ys.length ≤ maxLen)
    (hN : N (σ.over [(t', .one (.rf id .ar))] [(id, some (.rows e t dp (xs ++ ys))), (k, some .dead)])) : OpW P o N σ :=
  op_apS ho hd ht hx (.own hq) hT hy hs hk hid rfl hbd hml hN
theorem apNS [Glob] (ho : o.op = .call { callee := .builtin .append, args := #[x, y], argTypes := #[ty, ty] }) (hd : o.dst = some t') (ht : Nat.blt t' σ.n = true) (hx : σ.ev x = .one .nl) (he : elemB P ty = some e) (hy : σ.ev y = .one cy) (hs : slC σ.objs cy = some ⟨t, ys⟩) (hk : (t.flat || frzB σ.objs cy) = true)
    (hby : bytesB P e = some bytes) (hT : tyB P ty e t.w bytes = true) (hid : newO σ.objs t' = some id) (hbd : ys.length * bytes ≤ 140737488355328) (hml : ys.length ≤ maxLen)
    (hN : N (σ.over [(t', .one (.rf id .ar))] [(id, some (.rows e t false ys))])) : OpW P o N σ :=
  op_apS (xs := []) ho hd ht hx .nl hT hy hs (by simpa using hk) hid rfl (by simpa using hbd) (by simpa using hml) hN
theorem apOL [Glob] {j wd m : Nat} {e' : TypeId} {cs : List C} (ho : o.op = .call { callee := .builtin .append, args := #[x, y], argTypes := #[ty, ty] }) (hd : o.dst = some t') (ht : Nat.blt t' σ.n = true) (hx : σ.ev x = .one (.rf k .ar)) (hq : σ.objs k = some (.rows e t dp xs)) (hy : σ.ev y = .one (.rf j (.as wd m e'))) (hj : σ.objs j = some (.cells cs)) (hs : mkRows σ.objs t m cs = some ys) (hk : (t.flat || !dp) = true)
    (hby : bytesB P e = some bytes) (hT : tyB P ty e t.w bytes = true) (hid : newO (σ.over [] [(k, some .dead)]).objs t' = some id) (hbd : (xs.length + ys.length) * bytes ≤ 140737488355328) (hml : xs.length + ys.length ≤ maxLen)
    (hN : N (σ.over [(t', .one (.rf id .ar))] [(id, some (.rows e t dp (xs ++ ys))), (k, some .dead)])) : OpW P o N σ :=
  op_apL ho hd ht hx (.own hq) hT hy hj hs hk hid rfl hbd hml hN
theorem apNL [Glob] {j wd m : Nat} {e' : TypeId} {cs : List C} (ho : o.op = .call { callee := .builtin .append, args := #[x, y], argTypes := #[ty, ty] }) (hd : o.dst = some t') (ht : Nat.blt t' σ.n = true) (hx : σ.ev x = .one .nl) (he : elemB P ty = some e) (hty : tyOf P 9 e = some t) (hy : σ.ev y = .one (.rf j (.as wd m e'))) (hj : σ.objs j = some (.cells cs)) (hs : mkRows σ.objs t m cs = some ys)
    (hby : bytesB P e = some bytes) (hT : tyB P ty e t.w bytes = true) (hid : newO σ.objs t' = some id) (hbd : ys.length * bytes ≤ 140737488355328) (hml : ys.length ≤ maxLen)
    (hN : N (σ.over [(t', .one (.rf id .ar))] [(id, some (.rows e t false ys))])) : OpW P o N σ :=
  op_apL (xs := []) ho hd ht hx .nl hT hy hj hs (by simp) hid rfl (by simpa using hbd) (by simpa using hml) hN
/-- A literal as rows. -/
theorem litR [Glob] {len : Nat} {parts : Array (Nat × Operand)} {cs : List C} (ho : o.op = .buildSlice ty len parts) (hd : o.dst = some t') (ht : Nat.blt t' σ.n = true) (he : elemB P ty = some e) (hty : tyOf P 9 e = some t) (h : litC P σ.ev ty len parts = some (e, t.w, cs)) (hm : mkRows σ.objs t len cs = some xs)
    (hid : newO σ.objs t' = some id) (hN : N (σ.over [(t', .one (.rf id .ar))] [(id, some (.rows e t false xs))])) : OpW P o N σ :=
  op_litR t false ho hd ht h hm (by simp) hid hN
/-- A literal written out. -/
theorem litW [Glob] {len size : Nat} {parts : Array (Nat × Operand)} {cs cs' : List C} (ho : o.op = .buildSlice ty len parts) (hd : o.dst = some t') (ht : Nat.blt t' σ.n = true) (h : litC P σ.ev ty len parts = some (e, size, cs)) (hcs : forceL cs = some cs') (hid : newO σ.objs t' = some id)
    (hN : N (σ.over [(t', .one (.rf id (.as size len e)))] [(id, some (.cells cs'))])) : OpW P o N σ := by
  obtain rfl := forceL_eq hcs
  exact op_litC ho hd ht h hid hN
theorem setO_twice {t' id : Nat} {s : SV} {A B : Ob} : ((σ.setO id A).put t' s).setO id B = σ.over [(t', s)] [(id, some B)] := by
  unfold St.setO St.put St.over
  simp only [lookOB, lookO]
  have : (fun o' => bif Nat.beq o' id then some B else bif Nat.beq o' id then some A else σ.objs o') = fun o' => bif Nat.beq o' id then some B else σ.objs o' := by
    funext x
    cases Nat.beq x id <;> rfl
  rw [this]
/-- make. -/
theorem mkS [Glob] {k k' : IntKind} {n : Int} {z0 : t.T} {zs : List Value} (ho : o.op = .makeSlice ty x y) (hd : o.dst = some t') (ht : Nat.blt t' σ.n = true) (he : elemB P ty = some e) (hty : tyOf P 9 e = some t) (hx : σ.ev x = .one (.d (.i k) n)) (hy : σ.ev y = .one (.d (.i k') n)) (hby : bytesB P e = some bytes) (hT : tyB P ty e t.w bytes = true)
    (hz : zeroB P e = some zs) (hzt : mkT σ.objs t (zs.map C.ofZ) = some z0) (hfl : t.flat = true) (hid : newO σ.objs t' = some id) (h0 : 0 ≤ n) (hbd : n * bytes ≤ 281474976710656) (hml : n ≤ 9223372036854775807)
    (hN : N (σ.over [(t', .one (.rf id .ar))] [(id, some (.rows e t false (List.replicate n.toNat z0)))])) : OpW P o N σ := by
  refine OpW.out (Y := σ.over [(t', .one (.rf id .ar))] [(id, some (.rows e t false (List.replicate n.toNat z0)))]) ?_ (op_make t ho hd ht hT hx hy hz hzt hfl hid h0 hbd hml rfl) hN
  have h1 : ((σ.setO id (.rows e t true (List.replicate n.toNat z0))).put t' (.one (.rf id .ar))).objs id = some (.rows e t true (List.replicate n.toNat z0)) := by
    show (σ.setO id _).objs id = _
    exact St.setO_same _ _ _
  have h2 := Wk_shallow h1
  rw [setO_twice] at h2
  exact h2
end

/-! ### Gates -/
theorem inW [Glob] {c : Code} {Q : Exit → St → Prop} (h : W P c Q σ) : W P c Q σ := h
theorem inWO [Glob] {ops : Array Oper} {Q : Exit → St → Prop} {l : List Oper} (h : WO P ops Q l σ) : WO P ops Q l σ := h
theorem inRW [Glob] {ops : List Oper} {Q : Exit → St → Prop} {acc : List Fp} {l : List Oper} (h : RW P ops Q acc l σ) : RW P ops Q acc l σ := h
theorem inOp [Glob] {o : Oper} {N : St → Prop} (h : OpW P o N σ) : OpW P o N σ := h
theorem inE [Glob] {fn : Func} {args post : List SA} {res : RS} {e : Exit} (h : EndQ P fn args post res e σ) : EndQ P fn args post res e σ := h
def kindO : Op → Nat
  | .call c => match c.callee with
    | .value _ => 1
    | .builtin .append => 2
    | .builtin _ => 3
    | _ => 4
  | .buildSlice .. => 5
  | .makeSlice .. => 6
  | .binOp .. => 7
  | .makeFunc .. => 8
  | .convert .. => 9
  | _ => 0
theorem gate [Glob] (k : Nat) {o : Oper} {N : St → Prop} (_hk : kindO o.op = k) (h : OpW P o N σ) : OpW P o N σ := h
end Go.LX

