/- Is a slice nil? -/
import Derived.Test.YtbebnlhgnbnjoaaLxRun2
set_option linter.unusedVariables false
set_option linter.unusedSimpArgs false
namespace Go.LX

variable {P : Program} {σ : St}

theorem run_eqNil {ty : TypeId} (h : isSlB P ty = true) (A : Option Addr) (n c : Nat) (w : World) : (Op.equalIn Op.maxDepth ty (.slice A n c) (.slice none 0 0)).run P w = .ok A.isNone w := by
  unfold isSlB at h
  obtain ⟨e, he⟩ := Option.isSome_iff_exists.1 h
  have he := elemB_ok he
  obtain ⟨d, hd⟩ : ∃ d, Op.maxDepth = d + 1 := ⟨9999, rfl⟩
  rw [hd]
  cases A <;> simp [Op.equalIn, run_underlying he]
def nilOp (o : Op) : Option (Bool × TypeId × Operand) := match o with
  | .binOp .eql ty x (.const (.slice none 0 0)) _ => some (true, ty, x)
  | .binOp .neq ty x (.const (.slice none 0 0)) _ => some (false, ty, x)
  | _ => none
theorem op_nil [Glob] {o : Oper} {t : Nat} {pol : Bool} {ty : TypeId} {x : Operand} {c : C} {e : Ty} {xs : List e.T} {N : St → Prop} (ho : nilOp o.op = some (pol, ty, x)) (hd : o.dst = some t) (ht : Nat.blt t σ.n = true) (hty : isSlB P ty = true) (hx : σ.ev x = .one c) (hc : slC σ.objs c = some ⟨e, xs⟩)
    (hN : ∀ b : Bool, (b = true → xs = []) → N (σ.over [(t, .one (.d .bo (bif pol then b else !b)))] [])) : OpW P o N σ := by
  intro K w I g tm hi
  have hrt := CR.slC hi (hi.ev_one hx).1 hc
  obtain ⟨A, cap, hu, h1, h2, h3⟩ := hrt
  simp only [List.cons.injEq, and_true] at hu
  have hb : A.isNone = true → xs = [] := by
    intro hA
    cases xs with
    | nil => rfl
    | cons y ys =>
      obtain ⟨b, f, vs, hAs, _⟩ := h3 0 y rfl
      rw [hAs] at hA; cases hA
  have hrun : (execOp (Act.eval ⟨tm, []⟩) o).run P w = .ok (.value (.bool (bif pol then A.isNone else !A.isNone))) w := by
    have hev : Act.eval ⟨tm, []⟩ (.const (.slice none 0 0)) = .slice none 0 0 := rfl
    unfold nilOp at ho
    split at ho
    · rename_i h
      cases ho
      simp [execOp, h, eqGuard, binOp, hu, hev, Op.equal, run_eqNil hty, bne]
    · rename_i h
      cases ho
      simp [execOp, h, eqGuard, binOp, hu, hev, Op.equal, run_eqNil hty, bne]
    · cases ho
  rw [hrun]
  simp only [Oper.upon, Act.put, hd]
  refine ⟨trivial, _, I, g, hN A.isNone hb, ?_⟩
  rw [← up_put]
  refine hi.put (Nat.le_of_ble_eq_true ht) rfl fun i c hc => ?_
  obtain ⟨rfl, rfl⟩ := one_cell hc
  exact ⟨_, rfl, rfl⟩
end Go.LX
