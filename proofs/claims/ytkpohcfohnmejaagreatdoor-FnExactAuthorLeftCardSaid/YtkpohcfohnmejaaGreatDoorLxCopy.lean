/- A part of the proof of the statement in the row text. -/
import Derived.Test.YtkpohcfohnmejaaGreatDoorLxUse
/- The walk's rules, each with its gate. -/
set_option linter.unusedVariables false
set_option linter.unusedSimpArgs false
namespace Go.LX

variable {P : Program} {σ : St} {Q : Exit → St → Prop} {ops l : List Oper}

theorem WO_runE [Glob] {nw : Bool} {l' : List Oper} {σ' : St} {p : Prop} (h0 : Nat.blt 0 (headE l) = true) (h : runE P nw ops (headE l) l σ = some (p, l', σ')) (hp : p) (hN : WO P ops.toArray Q l' σ') : WO P ops.toArray Q l σ := WO_run h hp hN
def simp1 : List Oper → Bool
  | o :: _ => o.guard.isNone && simpO o.op
  | [] => false
theorem WO_run1 [Glob] {nw : Bool} {l' : List Oper} {σ' : St} {p : Prop} (h0 : simp1 l = true) (h : runE P nw ops 1 l σ = some (p, l', σ')) (hp : p) (hN : WO P ops.toArray Q l' σ') : WO P ops.toArray Q l σ := WO_run h hp hN
def gOf : List Oper → Option Nat
  | o :: _ => o.guard.map (·.1)
  | [] => none
theorem WO_runG [Glob] {nw : Bool} {j d : Nat} {b : Bool} {l' : List Oper} {σ' : St} {p : Prop} (hg : gOf l = some j) (hd : gSlot ops j = some d) (hb : σ.slots d = .one (.d .bo b)) (h0 : Nat.blt 0 (headG j b l) = true) (h : runE P nw ops (headG j b l) l σ = some (p, l', σ')) (hp : p) (hN : WO P ops.toArray Q l' σ') : WO P ops.toArray Q l σ := WO_run h hp hN
/-- The operations at the head that have the guard j, which was passed over. -/
def headU (j : Nat) : List Oper → Nat
  | [] => 0
  | o :: l => match o.guard with
    | some (j', _) => bif Nat.beq j' j then headU j l + 1 else 0
    | none => 0
theorem WO_runU [Glob] {nw : Bool} {j d : Nat} {l' : List Oper} {σ' : St} {p : Prop} (hg : gOf l = some j) (hd : gSlot ops j = some d) (hb : σ.slots d = .tu []) (h0 : Nat.blt 0 (headU j l) = true) (h : runE P nw ops (headU j l) l σ = some (p, l', σ')) (hp : p) (hN : WO P ops.toArray Q l' σ') : WO P ops.toArray Q l σ := WO_run h hp hN
theorem WO_split [Glob] {j d : Nat} {t : Bool} (hg : gOf l = some j) (hd : gSlot ops j = some d) (hb : σ.slots d = .one (.d .bo t)) (hn : Nat.blt d σ.n = true)
    (h1 : t = true → WO P ops.toArray Q l (σ.put d (.one (.d .bo true)))) (h0 : t = false → WO P ops.toArray Q l (σ.put d (.one (.d .bo false)))) : WO P ops.toArray Q l σ := by
  cases t with
  | true => have := h1 rfl; rwa [put_self hb] at this
  | false => have := h0 rfl; rwa [put_self hb] at this
theorem W_drawN [Glob] {id : Nat} {c : List Oper} (hedge : edgeGo c = true) (h : RW P c Q [] c σ) : W P (.region id c.toArray true) Q σ := W_draw h hedge id
theorem RW_runE [Glob] {nw : Bool} {acc acc' : List Fp} {L : List (Prop × Upd)} {p : Prop} {l' : List Oper} {σ' : St} (h0 : Nat.blt 0 (headE l) = true) (h : drawE P nw ops σ.slots σ.objs (headE l) l σ = some L) (h2 : ∀ s0 b0, drawE P nw ops s0 b0 (headE l) l σ = some L) (h3 : finE ops (headE l) l σ acc L = some (p, acc', l', σ')) (hp : p)
    (hN : RW P ops Q acc' l' σ') : RW P ops Q acc l σ := RW_run h2 h3 hp hN
theorem RW_runG [Glob] {nw : Bool} {j d : Nat} {b : Bool} {acc acc' : List Fp} {L : List (Prop × Upd)} {p : Prop} {l' : List Oper} {σ' : St} (hg : gOf l = some j) (hd : gSlot ops j = some d) (hb : σ.slots d = .one (.d .bo b)) (h0 : Nat.blt 0 (headG j b l) = true) (h : drawE P nw ops σ.slots σ.objs (headG j b l) l σ = some L) (h2 : ∀ s0 b0, drawE P nw ops s0 b0 (headG j b l) l σ = some L) (h3 : finE ops (headG j b l) l σ acc L = some (p, acc', l', σ')) (hp : p)
    (hN : RW P ops Q acc' l' σ') : RW P ops Q acc l σ := RW_run h2 h3 hp hN
theorem RW_runU [Glob] {nw : Bool} {j d : Nat} {acc acc' : List Fp} {L : List (Prop × Upd)} {p : Prop} {l' : List Oper} {σ' : St} (hg : gOf l = some j) (hd : gSlot ops j = some d) (hb : σ.slots d = .tu []) (h0 : Nat.blt 0 (headU j l) = true) (h : drawE P nw ops σ.slots σ.objs (headU j l) l σ = some L) (h2 : ∀ s0 b0, drawE P nw ops s0 b0 (headU j l) l σ = some L) (h3 : finE ops (headU j l) l σ acc L = some (p, acc', l', σ')) (hp : p)
    (hN : RW P ops Q acc' l' σ') : RW P ops Q acc l σ := RW_run h2 h3 hp hN
theorem RW_split [Glob] {j d : Nat} {t : Bool} {acc : List Fp} (hg : gOf l = some j) (hd : gSlot ops j = some d) (hb : σ.slots d = .one (.d .bo t))
    (h1 : t = true → RW P ops Q acc l (σ.put d (.one (.d .bo true)))) (h0 : t = false → RW P ops Q acc l (σ.put d (.one (.d .bo false)))) : RW P ops Q acc l σ := by
  cases t with
  | true => have := h1 rfl; rwa [put_self hb] at this
  | false => have := h0 rfl; rwa [put_self hb] at this
/-- The end of a body. -/
theorem end_of [Glob] {fn : Func} {args post : List SA} {res : RS} {e : Exit} {rs : List (Bool × List C)} (h1 : finX e = true) (h3 : fn.results.toList.mapM (resOf P σ) = some rs) (h5 : nodB (PoOs σ.objs 0 post ++ RsO res rs) = true) (h2 : PoPs σ.objs 0 args post) (h4 : RsP σ.objs res rs) : EndQ P fn args post res e σ :=
  ⟨σ, Wk.refl σ, h1, h2, rs, h3, h4, nodB_ok h5⟩
theorem W_condB [Glob] {x : Operand} {a b : Code} {t : Bool} (hx : σ.ev x = .one (.d .bo t)) (ha : t = true → W P a Q σ) (hb : t = false → W P b Q σ) : W P (.cond x a b) Q σ := W_cond hx ha hb
theorem asT_d {ob : Nat → Option Ob} {t : Ty} {x : t.T} (ht : t.one = true) : asT ob t (.d t x) = some x := by
  cases t with
  | i k => cases k <;> rfl
  | sl e =>
    simp only [asT]
    split
    · rfl
    · rename_i h _; exact absurd rfl h
  | u8 => rfl
  | bo => rfl
  | st => rfl
  | un => cases ht
  | pr a b => cases ht
/-- The end of a body that hands back a datum. -/
theorem end_d [Glob] {fn : Func} {args post : List SA} {e : Exit} {t : Ty} {x y : t.T} (h1 : finX e = true) (h3 : fn.results.toList.mapM (resOf P σ) = some [(false, [.d t y])]) (ht : t.one = true) (h5 : nodB (PoOs σ.objs 0 post) = true) (h2 : PoPs σ.objs 0 args post) (he : y = x) : EndQ P fn args post (.one (.d t x)) e σ := by
  subst he
  exact ⟨σ, Wk.refl σ, h1, h2, _, h3, asT_d ht, nodB_ok (by simpa [RsO, msO] using h5)⟩
/-- The end of a body that hands back a slice of its own. -/
theorem end_o [Glob] {fn : Func} {args post : List SA} {ex : Exit} {e : TypeId} {t : Ty} {dp : Bool} {xs ys : List t.T} {id : Nat} (h1 : finX ex = true) (h3 : fn.results.toList.mapM (resOf P σ) = some [(false, [.rf id .ar])]) (hq : σ.objs id = some (.rows e t dp ys)) (h5 : nodB (PoOs σ.objs 0 post ++ [id]) = true) (h2 : PoPs σ.objs 0 args post) (he : ys = xs) : EndQ P fn args post (.one (.own e t dp xs)) ex σ := by
  subst he
  exact ⟨σ, Wk.refl σ, h1, h2, _, h3, hq, nodB_ok (by simpa [RsO, msO] using h5)⟩
end Go.LX

/- Is a slice nil? -/
set_option linter.unusedVariables false
set_option linter.unusedSimpArgs false
namespace Go.LX

variable {P : Program} {σ : St}

theorem run_eqNil {ty : TypeId} (h : isSlB P ty = true) (A : Option Addr) (n c : Nat) (w : World) : (Op.equalIn Op.maxDepth ty (.slice A n c) (.slice none 0 0)).run P w = .ok A.isNone w := by
  unfold isSlB at h
  obtain ⟨e, he⟩ := Option.isSome_iff_exists.1 h
  have he := elemB_ok he
  obtain ⟨d, hd⟩ : ∃ d, Op.maxDepth = d + 1 := ⟨9999, rfl⟩
  rw [hd]
  cases A <;> simp [Op.equalIn, run_underlying he]
def nilOp (o : Op) : Option (Bool × TypeId × Operand) := match o with
  | .binOp .eql ty x (.const (.slice none 0 0)) _ => some (true, ty, x)
  | .binOp .neq ty x (.const (.slice none 0 0)) _ => some (false, ty, x)
  | _ => none
theorem op_nil [Glob] {o : Oper} {t : Nat} {pol : Bool} {ty : TypeId} {x : Operand} {c : C} {e : Ty} {xs : List e.T} {N : St → Prop} (ho : nilOp o.op = some (pol, ty, x)) (hd : o.dst = some t) (ht : Nat.blt t σ.n = true) (hty : isSlB P ty = true) (hx : σ.ev x = .one c) (hc : slC σ.objs c = some ⟨e, xs⟩)
    (hN : ∀ b : Bool, (b = true → xs = []) → N (σ.over [(t, .one (.d .bo (bif pol then b else !b)))] [])) : OpW P o N σ := by
  intro K w I g tm hi
  have hrt := CR.slC hi (hi.ev_one hx).1 hc
  obtain ⟨A, cap, hu, h1, h2, h3⟩ := hrt
  simp only [List.cons.injEq, and_true] at hu
  have hb : A.isNone = true → xs = [] := by
    intro hA
    cases xs with
    | nil => rfl
    | cons y ys =>
      obtain ⟨b, f, vs, hAs, _⟩ := h3 0 y rfl
      rw [hAs] at hA; cases hA
  have hrun : (execOp (Act.eval ⟨tm, []⟩) o).run P w = .ok (.value (.bool (bif pol then A.isNone else !A.isNone))) w := by
    have hev : Act.eval ⟨tm, []⟩ (.const (.slice none 0 0)) = .slice none 0 0 := rfl
    unfold nilOp at ho
    split at ho
    · rename_i h
      cases ho
      simp [execOp, h, eqGuard, binOp, hu, hev, Op.equal, run_eqNil hty, bne]
    · rename_i h
      cases ho
      simp [execOp, h, eqGuard, binOp, hu, hev, Op.equal, run_eqNil hty, bne]
    · cases ho
  rw [hrun]
  simp only [Oper.upon, Act.put, hd]
  refine ⟨trivial, _, I, g, hN A.isNone hb, ?_⟩
  rw [← up_put]
  refine hi.put (Nat.le_of_ble_eq_true ht) rfl fun i c hc => ?_
  obtain ⟨rfl, rfl⟩ := one_cell hc
  exact ⟨_, rfl, rfl⟩
end Go.LX

/- append, literals and make, as a walk meets them. -/
set_option linter.unusedVariables false
set_option linter.unusedSimpArgs false
namespace Go.LX

variable {P : Program} {σ : St}

def bytesB (P : Program) (e : TypeId) : Option Nat := match P.info? e with
  | some inf => match inf.bytes with
    | 0 => some 0
    | n + 1 => some (n + 1)
  | none => none
def prs : List Ty → Ty
  | [] => .un
  | [a] => a
  | a :: r => .pr a (prs r)
/-- A type's data. -/
def tyOf (P : Program) : Nat → TypeId → Option Ty
  | 0, _ => none
  | n + 1, e => match P.underlying e with
    | some (.int .u8) => some .u8
    | some (.int k) => some (.i k)
    | some .bool => some .bo
    | some .string => some .st
    | some (.slice e') => match tyOf P n e' with
      | some t => some (.sl t)
      | none => none
    | some (.struct fs) => match fs.toList.mapM fun f => tyOf P n f.type with
      | some ts => some (prs ts)
      | none => none
    | _ => none
theorem OpW.out [Glob] {o : Oper} {N : St → Prop} {X Y : St} (hw : Wk X Y) (h : OpW P o (fun s => s = X) σ) (hN : N Y) : OpW P o N σ := by
  intro K w I g tm hi
  refine upon_mono ?_ (fun e a w' h => h.elim) (h K w I g tm hi)
  rintro a w' ⟨hd, σ', I', g', rfl, r⟩
  obtain ⟨I2, g2, r2⟩ := hw K w' I' g' a.tmps r
  exact ⟨hd, Y, I2, g2, hN, r2⟩

section
variable {o : Oper} {t' id k bytes : Nat} {x y : Operand} {ty e : TypeId} {t : Ty} {dp : Bool} {cy : C} {xs ys : List t.T} {N : St → Prop}
theorem apOS [Glob] (ho : o.op = .call { callee := .builtin .append, args := #[x, y], argTypes := #[ty, ty] }) (hd : o.dst = some t') (ht : Nat.blt t' σ.n = true) (hx : σ.ev x = .one (.rf k .ar)) (hq : σ.objs k = some (.rows e t dp xs)) (hy : σ.ev y = .one cy) (hs : slC σ.objs cy = some ⟨t, ys⟩) (hk : (t.flat || (!dp && frzB σ.objs cy)) = true)
    (hby : bytesB P e = some bytes) (hT : tyB P ty e t.w bytes = true) (hid : newO (σ.over [] [(k, some .dead)]).objs t' = some id) (hbd : (xs.length + ys.length) * bytes ≤ 140737488355328) (hml : xs.length + ys.length ≤ maxLen)
    (hN : N (σ.over [(t', .one (.rf id .ar))] [(id, some (.rows e t dp (xs ++ ys))), (k, some .dead)])) : OpW P o N σ :=
  op_apS ho hd ht hx (.own hq) hT hy hs hk hid rfl hbd hml hN
theorem apNS [Glob] (ho : o.op = .call { callee := .builtin .append, args := #[x, y], argTypes := #[ty, ty] }) (hd : o.dst = some t') (ht : Nat.blt t' σ.n = true) (hx : σ.ev x = .one .nl) (he : elemB P ty = some e) (hy : σ.ev y = .one cy) (hs : slC σ.objs cy = some ⟨t, ys⟩) (hk : (t.flat || frzB σ.objs cy) = true)
    (hby : bytesB P e = some bytes) (hT : tyB P ty e t.w bytes = true) (hid : newO σ.objs t' = some id) (hbd : ys.length * bytes ≤ 140737488355328) (hml : ys.length ≤ maxLen)
    (hN : N (σ.over [(t', .one (.rf id .ar))] [(id, some (.rows e t false ys))])) : OpW P o N σ :=
  op_apS (xs := []) ho hd ht hx .nl hT hy hs (by simpa using hk) hid rfl (by simpa using hbd) (by simpa using hml) hN
theorem apOL [Glob] {j wd m : Nat} {e' : TypeId} {cs : List C} (ho : o.op = .call { callee := .builtin .append, args := #[x, y], argTypes := #[ty, ty] }) (hd : o.dst = some t') (ht : Nat.blt t' σ.n = true) (hx : σ.ev x = .one (.rf k .ar)) (hq : σ.objs k = some (.rows e t dp xs)) (hy : σ.ev y = .one (.rf j (.as wd m e'))) (hj : σ.objs j = some (.cells cs)) (hs : mkRows σ.objs t m cs = some ys) (hk : (t.flat || !dp) = true)
    (hby : bytesB P e = some bytes) (hT : tyB P ty e t.w bytes = true) (hid : newO (σ.over [] [(k, some .dead)]).objs t' = some id) (hbd : (xs.length + ys.length) * bytes ≤ 140737488355328) (hml : xs.length + ys.length ≤ maxLen)
    (hN : N (σ.over [(t', .one (.rf id .ar))] [(id, some (.rows e t dp (xs ++ ys))), (k, some .dead)])) : OpW P o N σ :=
  op_apL ho hd ht hx (.own hq) hT hy hj hs hk hid rfl hbd hml hN
theorem apNL [Glob] {j wd m : Nat} {e' : TypeId} {cs : List C} (ho : o.op = .call { callee := .builtin .append, args := #[x, y], argTypes := #[ty, ty] }) (hd : o.dst = some t') (ht : Nat.blt t' σ.n = true) (hx : σ.ev x = .one .nl) (he : elemB P ty = some e) (hty : tyOf P 9 e = some t) (hy : σ.ev y = .one (.rf j (.as wd m e'))) (hj : σ.objs j = some (.cells cs)) (hs : mkRows σ.objs t m cs = some ys)
    (hby : bytesB P e = some bytes) (hT : tyB P ty e t.w bytes = true) (hid : newO σ.objs t' = some id) (hbd : ys.length * bytes ≤ 140737488355328) (hml : ys.length ≤ maxLen)
    (hN : N (σ.over [(t', .one (.rf id .ar))] [(id, some (.rows e t false ys))])) : OpW P o N σ :=
  op_apL (xs := []) ho hd ht hx .nl hT hy hj hs (by simp) hid rfl (by simpa using hbd) (by simpa using hml) hN
/-- A literal as rows. -/
theorem litR [Glob] {len : Nat} {parts : Array (Nat × Operand)} {cs : List C} (ho : o.op = .buildSlice ty len parts) (hd : o.dst = some t') (ht : Nat.blt t' σ.n = true) (he : elemB P ty = some e) (hty : tyOf P 9 e = some t) (h : litC P σ.ev ty len parts = some (e, t.w, cs)) (hm : mkRows σ.objs t len cs = some xs)
    (hid : newO σ.objs t' = some id) (hN : N (σ.over [(t', .one (.rf id .ar))] [(id, some (.rows e t false xs))])) : OpW P o N σ :=
  op_litR t false ho hd ht h hm (by simp) hid hN
/-- A literal written out. -/
theorem litW [Glob] {len size : Nat} {parts : Array (Nat × Operand)} {cs cs' : List C} (ho : o.op = .buildSlice ty len parts) (hd : o.dst = some t') (ht : Nat.blt t' σ.n = true) (h : litC P σ.ev ty len parts = some (e, size, cs)) (hcs : forceL cs = some cs') (hid : newO σ.objs t' = some id)
    (hN : N (σ.over [(t', .one (.rf id (.as size len e)))] [(id, some (.cells cs'))])) : OpW P o N σ := by
  obtain rfl := forceL_eq hcs
  exact op_litC ho hd ht h hid hN
theorem setO_twice {t' id : Nat} {s : SV} {A B : Ob} : ((σ.setO id A).put t' s).setO id B = σ.over [(t', s)] [(id, some B)] := by
  unfold St.setO St.put St.over
  simp only [lookOB, lookO]
  have : (fun o' => bif Nat.beq o' id then some B else bif Nat.beq o' id then some A else σ.objs o') = fun o' => bif Nat.beq o' id then some B else σ.objs o' := by
    funext x
    cases Nat.beq x id <;> rfl
  rw [this]
/-- make. -/
theorem mkS [Glob] {k k' : IntKind} {n : Int} {z0 : t.T} {zs : List Value} (ho : o.op = .makeSlice ty x y) (hd : o.dst = some t') (ht : Nat.blt t' σ.n = true) (he : elemB P ty = some e) (hty : tyOf P 9 e = some t) (hx : σ.ev x = .one (.d (.i k) n)) (hy : σ.ev y = .one (.d (.i k') n)) (hby : bytesB P e = some bytes) (hT : tyB P ty e t.w bytes = true)
    (hz : zeroB P e = some zs) (hzt : mkT σ.objs t (zs.map C.ofZ) = some z0) (hfl : t.flat = true) (hid : newO σ.objs t' = some id) (h0 : 0 ≤ n) (hbd : n * bytes ≤ 281474976710656) (hml : n ≤ 9223372036854775807)
    (hN : N (σ.over [(t', .one (.rf id .ar))] [(id, some (.rows e t false (List.replicate n.toNat z0)))])) : OpW P o N σ := by
  refine OpW.out (Y := σ.over [(t', .one (.rf id .ar))] [(id, some (.rows e t false (List.replicate n.toNat z0)))]) ?_ (op_make t ho hd ht hT hx hy hz hzt hfl hid h0 hbd hml rfl) hN
  have h1 : ((σ.setO id (.rows e t true (List.replicate n.toNat z0))).put t' (.one (.rf id .ar))).objs id = some (.rows e t true (List.replicate n.toNat z0)) := by
    show (σ.setO id _).objs id = _
    exact St.setO_same _ _ _
  have h2 := Wk_shallow h1
  rw [setO_twice] at h2
  exact h2
end

/-! ### Gates -/
theorem inW [Glob] {c : Code} {Q : Exit → St → Prop} (h : W P c Q σ) : W P c Q σ := h
theorem inWO [Glob] {ops : Array Oper} {Q : Exit → St → Prop} {l : List Oper} (h : WO P ops Q l σ) : WO P ops Q l σ := h
theorem inRW [Glob] {ops : List Oper} {Q : Exit → St → Prop} {acc : List Fp} {l : List Oper} (h : RW P ops Q acc l σ) : RW P ops Q acc l σ := h
theorem inOp [Glob] {o : Oper} {N : St → Prop} (h : OpW P o N σ) : OpW P o N σ := h
theorem inE [Glob] {fn : Func} {args post : List SA} {res : RS} {e : Exit} (h : EndQ P fn args post res e σ) : EndQ P fn args post res e σ := h
def kindO : Op → Nat
  | .call c => match c.callee with
    | .value _ => 1
    | .builtin .append => 2
    | .builtin _ => 3
    | _ => 4
  | .buildSlice .. => 5
  | .makeSlice .. => 6
  | .binOp .. => 7
  | .makeFunc .. => 8
  | .convert .. => 9
  | _ => 0
theorem gate [Glob] (k : Nat) {o : Oper} {N : St → Prop} (_hk : kindO o.op = k) (h : OpW P o N σ) : OpW P o N σ := h
end Go.LX

/- copy. -/
set_option linter.unusedVariables false
set_option linter.unusedSimpArgs false
namespace Go.LX

variable {P : Program} {σ : St}

theorem setL_all {α : Type} : ∀ {ys b : List α} {j : Nat}, j + ys.length ≤ b.length → setL b j ys = b.take j ++ ys ++ b.drop (j + ys.length)
  | [], b, j, _ => by simp [setL]
  | y :: ys, b, j, h => by
    simp only [List.length_cons] at h
    unfold setL
    rw [setL_all (by simp; omega)]
    have e : b.set j y = b.take j ++ (y :: b.drop (j + 1)) := by rw [List.set_eq_take_append_cons_drop, if_pos (by omega)]
    have hl : (b.take j).length = j := by simp; omega
    have e1 : (b.set j y).take (j + 1) = b.take j ++ [y] := by
      rw [e, List.take_append, hl, List.take_of_length_le (by omega), show j + 1 - j = 0 + 1 by omega]; simp
    have e2 : (b.set j y).drop (j + 1 + ys.length) = b.drop (j + (y :: ys).length) := by
      rw [e, List.drop_append, hl, List.drop_eq_nil_of_le (by omega), show j + 1 + ys.length - j = ys.length + 1 by omega, List.drop_succ_cons, List.drop_drop]
      simp only [List.nil_append, List.length_cons]
      congr 1; omega
    rw [e1, e2]; simp
theorem rowsF_nil {w : World} {I : Nat → Prop} {t : Ty} : ∀ {xs : List t.T} {us : List Value} {L : List Nat}, Rows (RR w I false t) xs us L → L = []
  | [], _, _, h => h.2
  | x :: xs, _, _, h => by
    obtain ⟨u1, u2, L1, L2, rfl, rfl, h1, h2⟩ := h
    rw [h1.1, rowsF_nil h2]; rfl
theorem setO_self {o : Nat} {q : Ob} (h : σ.objs o = some q) : σ.setO o q = σ := by
  unfold St.setO
  cases σ with
  | mk n sl ob =>
    congr 1
    funext t
    simp only at h ⊢
    by_cases e : t = o
    · subst e; simp [h]
    · simp [beq_ne e]
/-- What a copy writes: object, place, length. -/
def dstR (ob : Nat → Option Ob) : C → Option (Nat × Nat × Nat)
  | .rf o .ar => match ob o with
    | some (.rows _ _ _ xs) => some (o, 0, xs.length)
    | _ => none
  | .rf o (.sb off len) => some (o, off, len)
  | _ => none
theorem run_copyK {ty ty2 e : TypeId} {size len c n cap : Nat} {o : TypeId} (he : elemB P ty = some e) (hsz : sizeB P e = some size) {A a : Option Addr} {w : World} (hk : min n len = 0) :
    (Builtin.copy_ #[ty, ty2] o #[.slice A len c, .slice a n cap]).run P w = .ok (goInt 0) w := by
  have hu := elemB_ok he
  have hl : ∀ (x : Addr), (loadCells x 0).run P w = .ok #[] w := fun x => by simpa using run_loadCells_list (P := P) w x [] (by simp)
  have hk' : Nat.min n len = 0 := hk
  cases A <;> cases a <;> simp [Builtin.copy_, run_underlying hu, Builtin.lenOf, Builtin.firstCells, run_sizeB hsz, hk', storeCells, hl]
theorem run_copyS {ty ty2 e : TypeId} {size len c n cap b f : Nat} {o : TypeId} (he : elemB P ty = some e) (hsz : sizeB P e = some size) {a : Addr} {w : World} {cs : List Value} (hn : cs.length = min n len * size)
    (hsrc : ∀ j v, cs[j]? = some v → w.cell? (a.add j) = some v) (h : ∀ j, j < cs.length → (w.cell? ⟨b, f + j, none⟩).isSome = true ∧ w.frozen? ⟨b, f + j, none⟩ = false) (h1 : ∀ v ∈ cs, v.oneCell' = true) :
    (Builtin.copy_ #[ty, ty2] o #[.slice (some ⟨b, f, none⟩) len c, .slice (some a) n cap]).run P w = .ok (goInt (min n len : Nat)) (putC w b f cs) := by
  have hu := elemB_ok he
  have hl := run_loadCells_list (P := P) w a cs hsrc
  have hst := run_storeCells_box (P := P) (b := b) (o := f) (vs := cs) (i := 0) (w := w) (fun j hj => by rw [Nat.add_zero]; exact h j hj) h1
  rw [Nat.add_zero] at hst
  have hk' : Nat.min n len = min n len := rfl
  simp [Builtin.copy_, run_underlying hu, Builtin.lenOf, Builtin.firstCells, run_sizeB hsz, hk', ← hn, hl, hst]
theorem op_copy [Glob] {o : Oper} {t' id off len : Nat} {x y : Operand} {ty ty2 e e0 : TypeId} {t : Ty} {cx cy : C} {xs ys : List t.T} {N : St → Prop} (ho : o.op = .call { callee := .builtin .copy, args := #[x, y], argTypes := #[ty, ty2] }) (hd : o.dst = some t') (ht : Nat.blt t' σ.n = true)
    (he : elemB P ty = some e) (hsz : sizeB P e = some t.w) (hx : σ.ev x = .one cx) (hr : dstR σ.objs cx = some (id, off, len)) (hq : σ.objs id = some (.rows e0 t false xs)) (hy : σ.ev y = .one cy) (hs : slC σ.objs cy = some ⟨t, ys⟩) (hk : (t.flat || frzB σ.objs cy) = true)
    (hN : N (σ.over [(t', .one (.d (.i .i64) ((min ys.length len : Nat) : Int)))] [(id, some (.rows e0 t false (xs.take off ++ ys.take (min ys.length len) ++ xs.drop (off + min ys.length len))))])) : OpW P o N σ := by
  intro K w I g tm hi
  have hcx := (hi.ev_one hx).1
  have hoa := hi.rows hq
  have hcy := (hi.ev_one hy).1
  generalize Act.eval ⟨tm, []⟩ x = ux at hcx
  generalize hev : Act.eval ⟨tm, []⟩ y = uy at hcy
  have hevx : ∃ ux', Act.eval ⟨tm, []⟩ x = ux' ∧ CR w I g σ.objs cx ux' := ⟨_, rfl, (hi.ev_one hx).1⟩
  clear hcx
  obtain ⟨ux, hevx, hcx⟩ := hevx
  have hdst : off + len ≤ xs.length ∧ ∃ A c, ux = .slice A len c ∧ (0 < len → ∃ b f cap, g.base id = .slice (some ⟨b, f, none⟩) xs.length cap ∧ A = some ⟨b, f + off * t.w, none⟩) := by
    unfold dstR at hr
    split at hr
    · rename_i o'
      split at hr
      · rename_i e1 t1 dp1 xs1 hq1
        simp only [Option.some.injEq, Prod.mk.injEq] at hr
        obtain ⟨rfl, rfl, rfl⟩ := hr
        rw [hq] at hq1
        cases hq1
        have hu : seeO w I (g.addr o') (g.base o') (g.L o') (σ.objs o') .ar ux := hcx
        rw [hq] at hu
        have hu : ux = g.base o' := hu
        subst hu
        obtain ⟨vs, L', hor, _, _⟩ := hoa
        refine ⟨by omega, ?_⟩
        rcases hor.2 with ⟨hb, hn⟩ | ⟨b, f, cap, cur, hb, _⟩
        · exact ⟨none, 0, by rw [hb, hn], fun h => by omega⟩
        · exact ⟨_, cap, hb, fun _ => ⟨b, f, cap, hb, by simp⟩⟩
      · cases hr
    · rename_i o' off' len'
      simp only [Option.some.injEq, Prod.mk.injEq] at hr
      obtain ⟨rfl, rfl, rfl⟩ := hr
      have hu : seeO w I (g.addr o') (g.base o') (g.L o') (σ.objs o') (.sb off' len') ux := hcx
      rw [hq] at hu
      obtain ⟨A, cap, B, c, h1, h2, h3, _, _, h4⟩ := hu
      refine ⟨h3, B, c, h2, fun h0 => ?_⟩
      obtain ⟨b, f, rfl, rfl⟩ := h4 h0
      exact ⟨b, f, cap, h1, rfl⟩
    · cases hr
  obtain ⟨hle, A, c, rfl, hA⟩ := hdst
  have hsrc : ∃ a cap news, uy = .slice a ys.length cap ∧ Rows (RR w I false t) ys news [] ∧ ((a = none ∧ ys.length = 0) ∨ ∃ a', a = some a' ∧ ∀ j v, news[j]? = some v → w.cell? (a'.add j) = some v) := by
    cases hf : t.flat with
    | true =>
      obtain ⟨a, cap, news, h1, h2, h3⟩ := rt_src (CR.slC hi hcy hs)
      exact ⟨a, cap, news, h1, rows_RR h2 (.inl hf), h3⟩
    | false =>
      rw [hf] at hk
      obtain ⟨a, cap, news, h1, h2, h3⟩ := rt_src (frz_slC hi (by simpa using hk) hcy hs)
      exact ⟨a, cap, news, h1, rows_RR h2 (.inr ⟨rfl, fun _ h => h⟩), h3⟩
  obtain ⟨a, cap, news, rfl, hrows, hcase⟩ := hsrc
  have hdone : ∀ (w' : World) (I' : Nat → Prop) (g' : Gh), (Builtin.copy_ #[ty, ty2] o.type #[.slice A len c, .slice a ys.length cap]).run P w = .ok (goInt (min ys.length len : Nat)) w' →
      Inv K w' I' g' (σ.setO id (.rows e0 t false (xs.take off ++ ys.take (min ys.length len) ++ xs.drop (off + min ys.length len)))) tm →
      o.upon P ⟨tm, []⟩ (fun a w' => a.defers = [] ∧ ∃ σ' I' g', N σ' ∧ Inv K w' I' g' σ' a.tmps) (fun _ _ _ => False) ((execOp (Act.eval ⟨tm, []⟩) o).run P w) := by
    intro w' I' g' hrun hinv
    have : (execOp (Act.eval ⟨tm, []⟩) o).run P w = .ok (.value (goInt (min ys.length len : Nat))) w' := by
      simp [execOp, ho, resolve, invoke, builtin, hevx, hev, hrun]
    rw [this]
    simp only [Oper.upon, Act.put, hd]
    refine ⟨trivial, _, I', g', hN, ?_⟩
    refine hinv.put (s := .one (.d (.i .i64) ((min ys.length len : Nat) : Int))) (u := goInt (min ys.length len : Nat)) (Nat.le_of_ble_eq_true ht) rfl fun i c hc => ?_
    obtain ⟨rfl, rfl⟩ := one_cell hc
    exact ⟨_, rfl, rfl⟩
  rcases Nat.eq_zero_or_pos (min ys.length len) with h0 | hpos
  · refine hdone w I g (by rw [h0]; exact run_copyK he hsz h0) ?_
    have hq' : σ.objs id = some (.rows e0 t false (xs.take off ++ ys.take (min ys.length len) ++ xs.drop (off + min ys.length len))) := by
      rw [h0, hq]; simp
    rw [setO_self hq']; exact hi
  · obtain ⟨b, f, cap', hb, rfl⟩ := hA (by omega)
    obtain ⟨a', rfl, hcells⟩ : ∃ a', a = some a' ∧ ∀ j v, news[j]? = some v → w.cell? (a'.add j) = some v := by
      rcases hcase with ⟨_, h⟩ | h
      · omega
      · exact h
    generalize hkk : min ys.length len = k at hdone hpos
    have hkl : k ≤ len := by omega
    have hky : k ≤ ys.length := by omega
    -- the source's first k rows
    have hys : ys = ys.take k ++ ys.drop k := (List.take_append_drop _ _).symm
    rw [hys] at hrows
    obtain ⟨n1, n2, M1, M2, hn12, hM12, hr1, hr2⟩ := hrows.split
    obtain rfl := rowsF_nil hr1
    have hn1l : n1.length = k * t.w := by
      rw [hr1.len (fun _ _ _ h => h.len), List.length_take]; congr 1; omega
    have hnod := hi.nod id
    obtain ⟨vs0, L', hor, hrow0, hL⟩ := hoa
    rw [hb] at hor
    obtain rfl := rowsF_nil hrow0
    have hxs : xs = xs.take off ++ ((xs.drop off).take k ++ xs.drop (off + k)) := by
      rw [show xs.drop (off + k) = (xs.drop off).drop k by rw [List.drop_drop], List.take_append_drop, List.take_append_drop]
    rw [hxs] at hrow0
    obtain ⟨u1, u23, K1, K23, hu, hK, p1, p23⟩ := hrow0.split
    obtain ⟨u2, u3, K2, K3, rfl, rfl, p2, p3⟩ := p23.split
    obtain rfl := rowsF_nil p1
    obtain rfl := rowsF_nil p2
    obtain rfl := rowsF_nil p3
    have hu1 : u1.length = off * t.w := by
      rw [p1.len (fun _ _ _ h => h.len), List.length_take]; congr 1; omega
    have hu2 : u2.length = k * t.w := by
      rw [p2.len (fun _ _ _ h => h.len), List.length_take, List.length_drop]; congr 1; omega
    have hown : b ∈ g.L id := by rw [hL, hb]; simp [Value.ownBlock]
    have hone : ∀ v ∈ n1, v.oneCell' = true := rows_one (fun _ _ _ h => h.rt.one) hr1
    have hroom : ∀ j, j < n1.length → (w.cell? ⟨b, f + off * t.w + j, none⟩).isSome = true ∧ w.frozen? ⟨b, f + off * t.w + j, none⟩ = false := by
      intro j hj
      have hlt : off * t.w + j < vs0.length := by rw [hu]; simp; omega
      have := hor.cells (off * t.w + j) _ (List.getElem?_eq_getElem hlt)
      rw [← Nat.add_assoc] at this
      exact ⟨by rw [this]; rfl, hor.frozenAt _⟩
    have hsrc1 : ∀ j v, n1[j]? = some v → w.cell? (a'.add j) = some v := fun j v hj => hcells j v (by
      rw [hn12, List.getElem?_append_left (List.getElem?_eq_some_iff.1 hj).1]; exact hj)
    have hrun := run_copyS (P := P) (ty2 := ty2) (o := o.type) (c := c) (n := ys.length) (len := len) (cap := cap) he hsz (by rw [hn1l, hkk]) hsrc1 hroom hone
    rw [hkk] at hrun
    refine hdone _ I (g.setO id (g.addr id) (g.base id) (g.L id)) hrun ?_
    have hown' := ownsR_putC (vs := n1) (j := off * t.w) hor
    obtain ⟨f1, f2, f3, f4, f5, f6, f7⟩ := putC_facts (b := b) (vs := n1) (o := f + off * t.w) (w := w) (fun j hj => (hroom j hj).1)
    generalize putC w b (f + off * t.w) n1 = w' at f1 f2 f3 f4 f5 f6 f7 hown'
    have hgr : Grow w w' fun x => x = b := ⟨f5, f6, f7, by omega, fun x _ hx => f3 x hx⟩
    refine hi.one (T := fun x => x = b) (L := g.L id) (ad := g.addr id) (base := g.base id) hgr (fun x hx => .inl (by rw [hx]; exact hown)) (hi.fr.step hgr fun x hx => by rw [hx]; exact hi.own_mine hq (fun _ h => by cases h) hown)
      (fun _ h => h) (fun x hx => .inl hx) hnod (fun x hx => ⟨by rw [f4]; exact hi.ob_lt hx, .inl hx, (hi.own id x hx).2.2⟩) (fun a ha => absurd ha (hi.noE hq (fun _ h => by cases h) a)) (fun v hv => (hi.exB id v hv).2 _ hq) ?_ fun hk hI => ?_
    · intro r u hs
      rw [hq] at hs
      rw [St.setO_same, Gh.setO_eq.2.1, Gh.setO_eq.2.2]
      exact see_rows (by simp; omega) (fun hd => by cases hd) hs
    · unfold ObR
      rw [St.setO_same]
      show OA w' I false e0 t _ ((g.setO id (g.addr id) (g.base id) (g.L id)).base id) ((g.setO id (g.addr id) (g.base id) (g.L id)).L id)
      rw [Gh.setO_eq.2.1, Gh.setO_eq.2.2, hb]
      have hmid : setL vs0 (off * t.w) n1 = u1 ++ n1 ++ u3 := by
        rw [setL_all (by rw [hu]; simp; omega), hu]
        rw [List.take_append_of_le_length (by omega), List.take_of_length_le (by omega)]
        rw [List.drop_append, List.drop_eq_nil_of_le (by omega), List.nil_append, show off * t.w + n1.length - u1.length = u2.length by omega, List.drop_append, List.drop_length, Nat.sub_self]
        simp
      rw [hmid] at hown'
      have hk2 : ∀ {zs : List t.T} {u : List Value}, Rows (RR w I false t) zs u [] → Rows (RR w' I false t) zs u [] := fun h => h.mono fun x u L _ _ h => ⟨h.1, h.2.kept (fun _ h => h) fun b' hb' f => (hI b' hb').2 f⟩
      refine ⟨u1 ++ n1 ++ u3, [], ?_, ?_, by rw [hL, hb]⟩
      · have : (xs.take off ++ ys.take k ++ xs.drop (off + k)).length = xs.length := by simp; omega
        rw [this]; exact hown'
      · have := ((hk2 p1).append (hk2 hr1)).append (hk2 p3)
        simpa using this
theorem msPd {ob : Nat → Option Ob} {t : Ty} {x y : t.T} (ht : t.one = true) (h : y = x) : msP ob (.d t x) (.d t y) := by subst h; exact asT_d ht
theorem msPo {ob : Nat → Option Ob} {e : TypeId} {t : Ty} {dp : Bool} {xs ys : List t.T} {o : Nat} (hq : ob o = some (.rows e t dp ys)) (h : ys = xs) : msP ob (.own e t dp xs) (.rf o .ar) := by subst h; exact hq
theorem msPn {ob : Nat → Option Ob} {e : TypeId} {t : Ty} {dp : Bool} {xs : List t.T} (h : xs = []) : msP ob (.own e t dp xs) .nl := h
theorem rsOne {ob : Nat → Option Ob} {s : S0} {c : C} (h : msP ob s c) : RsP ob (.one s) [(false, [c])] := h
end Go.LX

