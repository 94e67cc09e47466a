/- Literals whose elements are all written, in order; a walk's state told anew ahead of an operation. -/
import Derived.Test.YtojaiockbpcilaaLxBxR
set_option linter.unusedVariables false
set_option linter.unusedSimpArgs false
namespace Go.LX

variable {P : Program} {σ : St}
theorem OpW_weak [Glob] {o : Oper} {N : St → Prop} {σ' : St} (hw : Wk σ σ') (h : OpW P o N σ') : OpW P o N σ := by
  intro K w I g tm hi
  obtain ⟨I', g', h'⟩ := hw K w I g tm hi
  exact h K w I' g' tm h'
def flatC (size : Nat) : Nat → List (Nat × List C) → Option (List C)
  | _, [] => some []
  | j, (i, cs) :: r => bif Nat.beq i j && Nat.beq cs.length size then (flatC size (j + 1) r).map (cs ++ ·) else none
theorem flatC_fill {size : Nat} : ∀ {ps : List (Nat × List C)} {j : Nat} {cs pre rest : List C}, flatC size j ps = some cs → pre.length = j * size → rest.length = ps.length * size → fillC (fun i => some (i * size, size)) (pre ++ rest) ps = some (pre ++ cs)
  | [], j, cs, pre, rest, h, _, hr => by
    cases h
    have : rest = [] := List.eq_nil_of_length_eq_zero (by simpa using hr)
    subst this
    rfl
  | (i, c) :: ps, j, cs, pre, rest, h, hp, hr => by
    unfold flatC at h
    cases hb : (Nat.beq i j && Nat.beq c.length size) with
    | false => rw [hb] at h; cases h
    | true =>
      rw [hb] at h
      obtain ⟨b1, b2⟩ := Bool.and_eq_true_iff.1 hb
      have e1 := Nat.eq_of_beq_eq_true b1
      have e2 := Nat.eq_of_beq_eq_true b2
      subst e1
      obtain ⟨cs', hcs, rfl⟩ := Option.map_eq_some_iff.1 h
      have hlen : (ps.length + 1) * size = ps.length * size + size := by rw [Nat.add_mul]; omega
      rw [List.length_cons, hlen] at hr
      have ht : (pre ++ rest).take (i * size) = pre := by rw [← hp]; simp
      have hd : (pre ++ rest).drop (i * size + size) = rest.drop size := by rw [← hp, List.drop_append]; simp
      unfold fillC
      simp only
      rw [b2, show Nat.ble (i * size + size) (pre ++ rest).length = true from Nat.ble_eq_true_of_le (by rw [List.length_append]; omega), ht, hd]
      simp only [Bool.and_self, cond_true]
      have := flatC_fill (pre := pre ++ c) (rest := rest.drop size) hcs (by rw [List.length_append, hp, e2, Nat.add_mul]; omega) (by rw [List.length_drop]; omega)
      rw [this, List.append_assoc]
def litF (P : Program) (ev : Operand → SV) (ty : TypeId) (len : Nat) (parts : Array (Nat × Operand)) : Option (TypeId × Nat × List C) :=
  (elemB P ty).bind fun e => (sizeB P e).bind fun size => (zeroB P e).bind fun zs => (partsC ev parts.toList).bind fun ps =>
    bif plainZ zs && Nat.beq zs.length size && Nat.ble (len * size) 16777216 && Nat.ble len 16777216 && Nat.beq ps.length len then (flatC size 0 ps).map fun cs => (e, size, cs) else none
theorem litF_C {ev : Operand → SV} {ty : TypeId} {len : Nat} {parts : Array (Nat × Operand)} {r : TypeId × Nat × List C} (h : litF P ev ty len parts = some r) : litC P ev ty len parts = some r := by
  simp only [litF, Option.bind_eq_some_iff] at h
  obtain ⟨e, he, size, hs, zs, hz, ps, hp, h⟩ := h
  simp only [litC, Option.bind_eq_some_iff]
  refine ⟨e, he, size, hs, zs, hz, ps, hp, ?_⟩
  cases hb : (plainZ zs && Nat.beq zs.length size && Nat.ble (len * size) 16777216 && Nat.ble len 16777216 && Nat.beq ps.length len) with
  | false => rw [hb] at h; cases h
  | true =>
    rw [hb] at h
    obtain ⟨b1, b2⟩ := Bool.and_eq_true_iff.1 hb
    have e2 := Nat.eq_of_beq_eq_true b2
    obtain ⟨cs, hcs, rfl⟩ := Option.map_eq_some_iff.1 h
    rw [b1]
    have := flatC_fill (size := size) (pre := []) (rest := List.replicate (len * size) .any) hcs (by simp) (by simp [e2])
    simp only [List.nil_append] at this
    rw [this]
    rfl
theorem litRF [Glob] {o : Oper} {t' id len : Nat} {ty e : TypeId} {t : Ty} {xs : List t.T} {N : St → Prop} {parts : Array (Nat × Operand)} {cs : List C} (ho : o.op = .buildSlice ty len parts) (hd : o.dst = some t') (ht : Nat.blt t' σ.n = true) (he : elemB P ty = some e) (hty : tyOf P 9 e = some t) (h : litF P σ.ev ty len parts = some (e, t.w, cs)) (hm : mkRows σ.objs t len cs = some xs)
    (hid : newO σ.objs t' = some id) (hN : N (σ.over [(t', .one (.rf id .ar))] [(id, some (.rows e t false xs))])) : OpW P o N σ := litR ho hd ht he hty (litF_C h) hm hid hN
end Go.LX
