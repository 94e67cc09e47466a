/- The operations in the forms in which a walk meets them: each result written out. -/
import Derived.Test.YtbebnlhgnbnjoaaAxUse
namespace Go.AX

variable {P : Program} {σ : St}

def mvOp (o : Op) : Option Operand :=
  match o with
  | .move x | .assign x => some x
  | _ => none
theorem op_mv {o : Oper} {t : Nat} {x : Operand} {s : SV} {N : St → Prop} (ho : mvOp o.op = some x) (hd : o.dst = some t) (ht : Nat.blt t σ.n = true) (h0 : (σ.slots t).noOw = true) (hx : σ.evv x = s) (hN : N (σ.put t s)) : OpW P o N σ := by
  subst hx
  refine op_move (x := x) ?_ hd ht h0 hN
  unfold mvOp at ho
  split at ho
  · cases ho; rename_i h; exact .inl h
  · cases ho; rename_i h; exact .inr h
  · cases ho

theorem mv_v {o : Oper} {t : Nat} {x : Operand} {N : St → Prop} (ho : mvOp o.op = some x) (hd : o.dst = some t) (ht : Nat.blt t σ.n = true) (h0 : (σ.slots t).noOw = true) {v : Value} (hx : σ.evv x = .one (.d (.v v))) (hN : N (σ.put t (.one (.d (.v v))))) : OpW P o N σ := op_mv ho hd ht h0 hx hN
theorem mv_sl {o : Oper} {t : Nat} {x : Operand} {N : St → Prop} (ho : mvOp o.op = some x) (hd : o.dst = some t) (ht : Nat.blt t σ.n = true) (h0 : (σ.slots t).noOw = true) {rs : List (List D)} (hx : σ.evv x = .one (.d (.sl rs))) (hN : N (σ.put t (.one (.d (.sl rs))))) : OpW P o N σ := op_mv ho hd ht h0 hx hN
theorem mv_p {o : Oper} {t : Nat} {x : Operand} {N : St → Prop} (ho : mvOp o.op = some x) (hd : o.dst = some t) (ht : Nat.blt t σ.n = true) (h0 : (σ.slots t).noOw = true) {cs : List D} (hx : σ.evv x = .one (.d (.p cs))) (hN : N (σ.put t (.one (.d (.p cs))))) : OpW P o N σ := op_mv ho hd ht h0 hx hN
theorem mv_vw {o : Oper} {t : Nat} {x : Operand} {N : St → Prop} (ho : mvOp o.op = some x) (hd : o.dst = some t) (ht : Nat.blt t σ.n = true) (h0 : (σ.slots t).noOw = true) {p : Pl} {wh : Bool} {rs : List (List D)} (hx : σ.evv x = .one (.vw p wh rs)) (hN : N (σ.put t (.one (.vw p wh rs)))) : OpW P o N σ := op_mv ho hd ht h0 hx hN
theorem mv_nl {o : Oper} {t : Nat} {x : Operand} {N : St → Prop} (ho : mvOp o.op = some x) (hd : o.dst = some t) (ht : Nat.blt t σ.n = true) (h0 : (σ.slots t).noOw = true) (hx : σ.evv x = .one .nl) (hN : N (σ.put t (.one .nl))) : OpW P o N σ := op_mv ho hd ht h0 hx hN
theorem mv_bp {o : Oper} {t : Nat} {x : Operand} {N : St → Prop} (ho : mvOp o.op = some x) (hd : o.dst = some t) (ht : Nat.blt t σ.n = true) (h0 : (σ.slots t).noOw = true) {b c : Nat} (hx : σ.evv x = .one (.bp b c)) (hN : N (σ.put t (.one (.bp b c)))) : OpW P o N σ := op_mv ho hd ht h0 hx hN
theorem mv_vp {o : Oper} {t : Nat} {x : Operand} {N : St → Prop} (ho : mvOp o.op = some x) (hd : o.dst = some t) (ht : Nat.blt t σ.n = true) (h0 : (σ.slots t).noOw = true) {p : Pl} {cs : List D} (hx : σ.evv x = .one (.vp p cs)) (hN : N (σ.put t (.one (.vp p cs)))) : OpW P o N σ := op_mv ho hd ht h0 hx hN

-- a load out of a box, by what comes
theorem ld_v {o : Oper} {t : Nat} {ty : TypeId} {x : Operand} {bx c : Nat} {cs : List C} {cell : C} {N : St → Prop} (ho : o.op = .load ty x) (hd : o.dst = some t) (ht : Nat.blt t σ.n = true) (h0 : (σ.slots t).noOw = true) (hx : σ.ev x = .one (.bp bx c)) (hb : σ.boxes bx = some cs) (hc : cs[c]? = some cell) (hag : aggB P ty = some false) {v : Value} (hv : cell.asView ⟨true, bx, c⟩ = .d (.v v)) (hN : N (σ.put t (.one (.d (.v v))))) : OpW P o N σ := op_load_one ho hd ht h0 hx hb hc hag (by rw [hv]; exact hN)
theorem ld_sl {o : Oper} {t : Nat} {ty : TypeId} {x : Operand} {bx c : Nat} {cs : List C} {cell : C} {N : St → Prop} (ho : o.op = .load ty x) (hd : o.dst = some t) (ht : Nat.blt t σ.n = true) (h0 : (σ.slots t).noOw = true) (hx : σ.ev x = .one (.bp bx c)) (hb : σ.boxes bx = some cs) (hc : cs[c]? = some cell) (hag : aggB P ty = some false) {rs : List (List D)} (hv : cell.asView ⟨true, bx, c⟩ = .d (.sl rs)) (hN : N (σ.put t (.one (.d (.sl rs))))) : OpW P o N σ := op_load_one ho hd ht h0 hx hb hc hag (by rw [hv]; exact hN)
theorem ld_vw {o : Oper} {t : Nat} {ty : TypeId} {x : Operand} {bx c : Nat} {cs : List C} {cell : C} {N : St → Prop} (ho : o.op = .load ty x) (hd : o.dst = some t) (ht : Nat.blt t σ.n = true) (h0 : (σ.slots t).noOw = true) (hx : σ.ev x = .one (.bp bx c)) (hb : σ.boxes bx = some cs) (hc : cs[c]? = some cell) (hag : aggB P ty = some false) {p : Pl} {wh : Bool} {rs : List (List D)} (hv : cell.asView ⟨true, bx, c⟩ = .vw p wh rs) (hN : N (σ.put t (.one (.vw p wh rs)))) : OpW P o N σ := op_load_one ho hd ht h0 hx hb hc hag (by rw [hv]; exact hN)
theorem ld_nl {o : Oper} {t : Nat} {ty : TypeId} {x : Operand} {bx c : Nat} {cs : List C} {cell : C} {N : St → Prop} (ho : o.op = .load ty x) (hd : o.dst = some t) (ht : Nat.blt t σ.n = true) (h0 : (σ.slots t).noOw = true) (hx : σ.ev x = .one (.bp bx c)) (hb : σ.boxes bx = some cs) (hc : cs[c]? = some cell) (hag : aggB P ty = some false) (hv : cell.asView ⟨true, bx, c⟩ = .nl) (hN : N (σ.put t (.one .nl))) : OpW P o N σ := op_load_one ho hd ht h0 hx hb hc hag (by rw [hv]; exact hN)
theorem ld_bp {o : Oper} {t : Nat} {ty : TypeId} {x : Operand} {bx c : Nat} {cs : List C} {cell : C} {N : St → Prop} (ho : o.op = .load ty x) (hd : o.dst = some t) (ht : Nat.blt t σ.n = true) (h0 : (σ.slots t).noOw = true) (hx : σ.ev x = .one (.bp bx c)) (hb : σ.boxes bx = some cs) (hc : cs[c]? = some cell) (hag : aggB P ty = some false) {b' c' : Nat} (hv : cell.asView ⟨true, bx, c⟩ = .bp b' c') (hN : N (σ.put t (.one (.bp b' c')))) : OpW P o N σ := op_load_one ho hd ht h0 hx hb hc hag (by rw [hv]; exact hN)
theorem ld_p {o : Oper} {t : Nat} {ty : TypeId} {x : Operand} {bx c : Nat} {cs : List C} {cell : C} {N : St → Prop} (ho : o.op = .load ty x) (hd : o.dst = some t) (ht : Nat.blt t σ.n = true) (h0 : (σ.slots t).noOw = true) (hx : σ.ev x = .one (.bp bx c)) (hb : σ.boxes bx = some cs) (hc : cs[c]? = some cell) (hag : aggB P ty = some false) {ds : List D} (hv : cell.asView ⟨true, bx, c⟩ = .d (.p ds)) (hN : N (σ.put t (.one (.d (.p ds))))) : OpW P o N σ := op_load_one ho hd ht h0 hx hb hc hag (by rw [hv]; exact hN)

-- a pick whose test is known
theorem pk_t {o : Oper} {t : Nat} {c a b : Operand} {q : Bool} {N : St → Prop} (ho : o.op = .pick c a b) (hd : o.dst = some t) (ht : Nat.blt t σ.n = true) (h0 : (σ.slots t).noOw = true) (hc : σ.ev c = .one (.d (.v (.bool q)))) {v : Value} (hq : q = true) (ha : σ.evv a = .one (.d (.v v))) (hN : N (σ.put t (.one (.d (.v v))))) : OpW P o N σ :=
  op_pick ho hd ht h0 hc (fun _ => by rw [ha]; exact hN) fun h => by rw [hq] at h; cases h
theorem pk_f {o : Oper} {t : Nat} {c a b : Operand} {q : Bool} {N : St → Prop} (ho : o.op = .pick c a b) (hd : o.dst = some t) (ht : Nat.blt t σ.n = true) (h0 : (σ.slots t).noOw = true) (hc : σ.ev c = .one (.d (.v (.bool q)))) {v : Value} (hq : q = false) (ha : σ.evv b = .one (.d (.v v))) (hN : N (σ.put t (.one (.d (.v v))))) : OpW P o N σ :=
  op_pick ho hd ht h0 hc (fun h => by rw [hq] at h; cases h) fun _ => by rw [ha]; exact hN

end Go.AX
