/- The walk's rules, each with its gate. -/
import Derived.Test.YtojaiockbpcilaaLxUse
set_option linter.unusedVariables false
set_option linter.unusedSimpArgs false
namespace Go.LX

variable {P : Program} {σ : St} {Q : Exit → St → Prop} {ops l : List Oper}

theorem WO_runE [Glob] {nw : Bool} {l' : List Oper} {σ' : St} {p : Prop} (h0 : Nat.blt 0 (headE l) = true) (h : runE P nw ops (headE l) l σ = some (p, l', σ')) (hp : p) (hN : WO P ops.toArray Q l' σ') : WO P ops.toArray Q l σ := WO_run h hp hN
def simp1 : List Oper → Bool
  | o :: _ => o.guard.isNone && simpO o.op
  | [] => false
theorem WO_run1 [Glob] {nw : Bool} {l' : List Oper} {σ' : St} {p : Prop} (h0 : simp1 l = true) (h : runE P nw ops 1 l σ = some (p, l', σ')) (hp : p) (hN : WO P ops.toArray Q l' σ') : WO P ops.toArray Q l σ := WO_run h hp hN
def gOf : List Oper → Option Nat
  | o :: _ => o.guard.map (·.1)
  | [] => none
theorem WO_runG [Glob] {nw : Bool} {j d : Nat} {b : Bool} {l' : List Oper} {σ' : St} {p : Prop} (hg : gOf l = some j) (hd : gSlot ops j = some d) (hb : σ.slots d = .one (.d .bo b)) (h0 : Nat.blt 0 (headG j b l) = true) (h : runE P nw ops (headG j b l) l σ = some (p, l', σ')) (hp : p) (hN : WO P ops.toArray Q l' σ') : WO P ops.toArray Q l σ := WO_run h hp hN
/-- The operations at the head that have the guard j, which was passed over. -/
def headU (j : Nat) : List Oper → Nat
  | [] => 0
  | o :: l => match o.guard with
    | some (j', _) => bif Nat.beq j' j then headU j l + 1 else 0
    | none => 0
theorem WO_runU [Glob] {nw : Bool} {j d : Nat} {l' : List Oper} {σ' : St} {p : Prop} (hg : gOf l = some j) (hd : gSlot ops j = some d) (hb : σ.slots d = .tu []) (h0 : Nat.blt 0 (headU j l) = true) (h : runE P nw ops (headU j l) l σ = some (p, l', σ')) (hp : p) (hN : WO P ops.toArray Q l' σ') : WO P ops.toArray Q l σ := WO_run h hp hN
theorem WO_split [Glob] {j d : Nat} {t : Bool} (hg : gOf l = some j) (hd : gSlot ops j = some d) (hb : σ.slots d = .one (.d .bo t)) (hn : Nat.blt d σ.n = true)
    (h1 : t = true → WO P ops.toArray Q l (σ.put d (.one (.d .bo true)))) (h0 : t = false → WO P ops.toArray Q l (σ.put d (.one (.d .bo false)))) : WO P ops.toArray Q l σ := by
  cases t with
  | true => have := h1 rfl; rwa [put_self hb] at this
  | false => have := h0 rfl; rwa [put_self hb] at this
theorem W_drawN [Glob] {id : Nat} {c : List Oper} (hedge : edgeGo c = true) (h : RW P c Q [] c σ) : W P (.region id c.toArray true) Q σ := W_draw h hedge id
theorem RW_runE [Glob] {nw : Bool} {acc acc' : List Fp} {L : List (Prop × Upd)} {p : Prop} {l' : List Oper} {σ' : St} (h0 : Nat.blt 0 (headE l) = true) (h : drawE P nw ops σ.slots σ.objs (headE l) l σ = some L) (h2 : ∀ s0 b0, drawE P nw ops s0 b0 (headE l) l σ = some L) (h3 : finE ops (headE l) l σ acc L = some (p, acc', l', σ')) (hp : p)
    (hN : RW P ops Q acc' l' σ') : RW P ops Q acc l σ := RW_run h2 h3 hp hN
theorem RW_runG [Glob] {nw : Bool} {j d : Nat} {b : Bool} {acc acc' : List Fp} {L : List (Prop × Upd)} {p : Prop} {l' : List Oper} {σ' : St} (hg : gOf l = some j) (hd : gSlot ops j = some d) (hb : σ.slots d = .one (.d .bo b)) (h0 : Nat.blt 0 (headG j b l) = true) (h : drawE P nw ops σ.slots σ.objs (headG j b l) l σ = some L) (h2 : ∀ s0 b0, drawE P nw ops s0 b0 (headG j b l) l σ = some L) (h3 : finE ops (headG j b l) l σ acc L = some (p, acc', l', σ')) (hp : p)
    (hN : RW P ops Q acc' l' σ') : RW P ops Q acc l σ := RW_run h2 h3 hp hN
theorem RW_runU [Glob] {nw : Bool} {j d : Nat} {acc acc' : List Fp} {L : List (Prop × Upd)} {p : Prop} {l' : List Oper} {σ' : St} (hg : gOf l = some j) (hd : gSlot ops j = some d) (hb : σ.slots d = .tu []) (h0 : Nat.blt 0 (headU j l) = true) (h : drawE P nw ops σ.slots σ.objs (headU j l) l σ = some L) (h2 : ∀ s0 b0, drawE P nw ops s0 b0 (headU j l) l σ = some L) (h3 : finE ops (headU j l) l σ acc L = some (p, acc', l', σ')) (hp : p)
    (hN : RW P ops Q acc' l' σ') : RW P ops Q acc l σ := RW_run h2 h3 hp hN
theorem RW_split [Glob] {j d : Nat} {t : Bool} {acc : List Fp} (hg : gOf l = some j) (hd : gSlot ops j = some d) (hb : σ.slots d = .one (.d .bo t))
    (h1 : t = true → RW P ops Q acc l (σ.put d (.one (.d .bo true)))) (h0 : t = false → RW P ops Q acc l (σ.put d (.one (.d .bo false)))) : RW P ops Q acc l σ := by
  cases t with
  | true => have := h1 rfl; rwa [put_self hb] at this
  | false => have := h0 rfl; rwa [put_self hb] at this
/-- The end of a body. -/
theorem end_of [Glob] {fn : Func} {args post : List SA} {res : RS} {e : Exit} {rs : List (Bool × List C)} (h1 : finX e = true) (h3 : fn.results.toList.mapM (resOf P σ) = some rs) (h5 : nodB (PoOs σ.objs 0 post ++ RsO res rs) = true) (h2 : PoPs σ.objs 0 args post) (h4 : RsP σ.objs res rs) : EndQ P fn args post res e σ :=
  ⟨σ, Wk.refl σ, h1, h2, rs, h3, h4, nodB_ok h5⟩
theorem W_condB [Glob] {x : Operand} {a b : Code} {t : Bool} (hx : σ.ev x = .one (.d .bo t)) (ha : t = true → W P a Q σ) (hb : t = false → W P b Q σ) : W P (.cond x a b) Q σ := W_cond hx ha hb
theorem asT_d {ob : Nat → Option Ob} {t : Ty} {x : t.T} (ht : t.one = true) : asT ob t (.d t x) = some x := by
  cases t with
  | i k => cases k <;> rfl
  | sl e =>
    simp only [asT]
    split
    · rfl
    · rename_i h _; exact absurd rfl h
  | u8 => rfl
  | bo => rfl
  | st => rfl
  | un => cases ht
  | pr a b => cases ht
/-- The end of a body that hands back a datum. -/
theorem end_d [Glob] {fn : Func} {args post : List SA} {e : Exit} {t : Ty} {x y : t.T} (h1 : finX e = true) (h3 : fn.results.toList.mapM (resOf P σ) = some [(false, [.d t y])]) (ht : t.one = true) (h5 : nodB (PoOs σ.objs 0 post) = true) (h2 : PoPs σ.objs 0 args post) (he : y = x) : EndQ P fn args post (.one (.d t x)) e σ := by
  subst he
  exact ⟨σ, Wk.refl σ, h1, h2, _, h3, asT_d ht, nodB_ok (by simpa [RsO, msO] using h5)⟩
/-- The end of a body that hands back a slice of its own. -/
theorem end_o [Glob] {fn : Func} {args post : List SA} {ex : Exit} {e : TypeId} {t : Ty} {dp : Bool} {xs ys : List t.T} {id : Nat} (h1 : finX ex = true) (h3 : fn.results.toList.mapM (resOf P σ) = some [(false, [.rf id .ar])]) (hq : σ.objs id = some (.rows e t dp ys)) (h5 : nodB (PoOs σ.objs 0 post ++ [id]) = true) (h2 : PoPs σ.objs 0 args post) (he : ys = xs) : EndQ P fn args post (.one (.own e t dp xs)) ex σ := by
  subst he
  exact ⟨σ, Wk.refl σ, h1, h2, _, h3, hq, nodB_ok (by simpa [RsO, msO] using h5)⟩
end Go.LX
