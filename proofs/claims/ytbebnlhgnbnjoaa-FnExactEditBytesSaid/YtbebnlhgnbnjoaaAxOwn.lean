/- Owned slices: blocks that one place alone holds. -/
import Derived.Test.YtbebnlhgnbnjoaaAxRep
namespace Go.AX

theorem flat_row : ∀ {α : Type} {rs : List (List α)} {size i : Nat} {row : List α}, (∀ r ∈ rs, r.length = size) → rs[i]? = some row → (rs.flatten.drop (i * size)).take size = row
  | α, r :: rs, size, 0, row, h, hr => by
    simp at hr; subst hr
    have := h r (by simp)
    simp [List.take_append_of_le_length (Nat.le_of_eq this.symm), List.take_of_length_le (Nat.le_of_eq this)]
  | α, r :: rs, size, i + 1, row, h, hr => by
    have hl := h r (by simp)
    have e : (i + 1) * size = r.length + i * size := by rw [hl, Nat.add_mul, Nat.one_mul, Nat.add_comm]
    rw [List.flatten_cons, e, List.drop_append]
    simp only [Nat.add_sub_cancel_left, List.drop_eq_nil_of_le (Nat.le_add_right _ _), List.nil_append]
    exact flat_row (fun r hr => h r (by simp [hr])) (by simpa using hr)
  | α, [], _, _, _, _, hr => by simp at hr
theorem flat_len {α : Type} : ∀ {rs : List (List α)} {size : Nat}, (∀ r ∈ rs, r.length = size) → rs.flatten.length = rs.length * size
  | [], size, _ => by simp
  | r :: rs, size, h => by
    rw [List.flatten_cons, List.length_append, flat_len (fun r hr => h r (by simp [hr])), h r (by simp), List.length_cons, Nat.add_mul, Nat.one_mul, Nat.add_comm]

theorem Rd.oneCell {w : World} {S : Nat → Prop} {d : D} {u : Value} (h : Rd w S d u) : u.oneCell' = true := by
  obtain ⟨n, h⟩ := h
  cases n with
  | zero => exact h.elim
  | succ n =>
    cases d with
    | v x => obtain ⟨rfl, hs⟩ := h; cases u <;> simp_all [scal, Value.oneCell']
    | sl rs => obtain ⟨A, cap, rfl, _⟩ := h; rfl
    | p cs => obtain ⟨b, o, vs, rfl, _⟩ := h; rfl
    | f fn caps => obtain ⟨vs, rfl, _⟩ := h; rfl

/-- The cells of owned rows: each slice among them by R, all else is read. -/
def OC (R : List (List D) → Value → List Nat → Prop) (w : World) (I : Nat → Prop) : List D → List Value → List Nat → Prop
  | [], [], L => L = []
  | d :: ds, u :: us, L => ∃ L1 L2, L = L1 ++ L2 ∧ (match d with | .sl rs => R rs u L1 | d => L1 = [] ∧ Rd w I d u) ∧ OC R w I ds us L2
  | _, _, _ => False

theorem OC.length {R : List (List D) → Value → List Nat → Prop} {w : World} {I : Nat → Prop} : ∀ {ds : List D} {us : List Value} {L : List Nat}, OC R w I ds us L → ds.length = us.length
  | [], [], _, _ => rfl
  | _ :: _, _ :: _, _, h => by obtain ⟨_, _, _, _, h⟩ := h; exact congrArg (· + 1) (OC.length h)
  | [], _ :: _, _, h => h.elim
  | _ :: _, [], _, h => h.elim
theorem OC.mono {R R' : List (List D) → Value → List Nat → Prop} {w w' : World} {I I' : Nat → Prop} : ∀ {ds : List D} {us : List Value} {L : List Nat}, OC R w I ds us L →
    (∀ rs u L1, (∀ b ∈ L1, b ∈ L) → R rs u L1 → R' rs u L1) → (∀ d u, Rd w I d u → Rd w' I' d u) → OC R' w' I' ds us L
  | [], [], _, h, _, _ => h
  | d :: ds, u :: us, L, h, hR, hd => by
    obtain ⟨L1, L2, rfl, h1, h2⟩ := h
    refine ⟨L1, L2, rfl, ?_, OC.mono h2 (fun rs u L1 hb => hR rs u L1 fun b hb' => by simp [hb b hb']) hd⟩
    cases d with
    | sl rs => exact hR rs u L1 (fun b hb => by simp [hb]) h1
    | v x => exact ⟨h1.1, hd _ _ h1.2⟩
    | p cs => exact ⟨h1.1, hd _ _ h1.2⟩
    | f fn caps => exact ⟨h1.1, hd _ _ h1.2⟩
  | [], _ :: _, _, h, _, _ => h.elim
  | _ :: _, [], _, h, _, _ => h.elim
theorem OC.append {R : List (List D) → Value → List Nat → Prop} {w : World} {I : Nat → Prop} : ∀ {ds : List D} {us : List Value} {L : List Nat} {ds' : List D} {us' : List Value} {L' : List Nat}, OC R w I ds us L → OC R w I ds' us' L' → OC R w I (ds ++ ds') (us ++ us') (L ++ L')
  | [], [], _, _, _, _, h, h' => by cases h; exact h'
  | d :: ds, u :: us, L, _, _, _, h, h' => by
    obtain ⟨L1, L2, rfl, h1, h2⟩ := h
    exact ⟨L1, L2 ++ _, List.append_assoc .., h1, OC.append h2 h'⟩
  | [], _ :: _, _, _, _, _, h, _ => h.elim
  | _ :: _, [], _, _, _, _, h, _ => h.elim
theorem OC.split {R : List (List D) → Value → List Nat → Prop} {w : World} {I : Nat → Prop} : ∀ {ds ds' : List D} {us : List Value} {L : List Nat}, OC R w I (ds ++ ds') us L → ∃ us1 us2 L1 L2, us = us1 ++ us2 ∧ L = L1 ++ L2 ∧ OC R w I ds us1 L1 ∧ OC R w I ds' us2 L2
  | [], ds', us, L, h => ⟨[], us, [], L, rfl, rfl, rfl, h⟩
  | d :: ds, ds', [], L, h => h.elim
  | d :: ds, ds', u :: us, L, h => by
    obtain ⟨L1, L2, rfl, h1, h2⟩ := h
    obtain ⟨us1, us2, M1, M2, rfl, rfl, h3, h4⟩ := OC.split h2
    exact ⟨u :: us1, us2, L1 ++ M1, M2, rfl, (List.append_assoc ..).symm, ⟨L1, M1, rfl, h1, h3⟩, h4⟩

/-- An owned slice of rows of size cells; R: how the slices in its cells are held. -/
def ROT (R : List (List D) → Value → List Nat → Prop) (w : World) (I : Nat → Prop) (e : TypeId) (size : Nat) (rs : List (List D)) (u : Value) (L : List Nat) : Prop :=
  ∃ xs L', w.ownsRow 0 e size u rs.length xs ∧ (∀ r ∈ rs, r.length = size) ∧ OC R w I rs.flatten xs L' ∧ L = u.ownBlock.toList ++ L'

/-- Owned down to depth k; deeper it is read alone. -/
def RO (w : World) (I : Nat → Prop) : Nat → List (List D) → Value → List Nat → Prop
  | 0, rs, u, L => L = [] ∧ Rd w I (.sl rs) u
  | k + 1, rs, u, L => ∃ e size, ROT (RO w I k) w I e size rs u L

theorem ownsRow_block {w w' : World} {base : Nat} {e : TypeId} {size : Nat} {v : Value} {n : Nat} {xs : List Value} (h : w.ownsRow base e size v n xs) (hw : ∀ b, v.ownBlock = some b → w'.heap[b]? = w.heap[b]?) : w'.ownsRow base e size v n xs := by
  refine ⟨h.1, ?_⟩
  rcases h.2 with hn | ⟨g, cap, cur, rfl, hb, hg, rest⟩
  · exact .inl hn
  · exact .inr ⟨g, cap, cur, rfl, hb, by rw [hw g rfl]; exact hg, rest⟩

theorem cell_block {w w' : World} {b : Nat} (h : w'.heap[b]? = w.heap[b]?) (o : Nat) : w'.cell? ⟨b, o, none⟩ = w.cell? ⟨b, o, none⟩ := World.cell?_of_block (a := ⟨b, o, none⟩) h

/-- What is owned stays owned where its blocks and those that are read stay. -/
theorem RO.kept {w w' : World} {I I' : Nat → Prop} (hS : ∀ b, I b → I' b) (hI : ∀ b, I b → ∀ o, w'.cell? ⟨b, o, none⟩ = w.cell? ⟨b, o, none⟩) :
    ∀ {k : Nat} {rs : List (List D)} {u : Value} {L : List Nat}, (∀ b ∈ L, w'.heap[b]? = w.heap[b]?) → RO w I k rs u L → RO w' I' k rs u L := by
  intro k
  induction k with
  | zero => exact fun _ h => ⟨h.1, h.2.kept hS hI⟩
  | succ k ih =>
    rintro rs u L hL ⟨e, size, xs, L', ho, hr, hc, rfl⟩
    exact ⟨e, size, xs, L', ownsRow_block ho (fun b hb => hL b (by simp [hb])), hr, hc.mono (fun rs u L1 hb h => ih (fun b hb' => hL b (by simp [hb b hb'])) h) (fun d u h => h.kept hS hI), rfl⟩
theorem ROT.kept {w w' : World} {I I' : Nat → Prop} {k : Nat} {e : TypeId} {size : Nat} {rs : List (List D)} {u : Value} {L : List Nat} (h : ROT (RO w I k) w I e size rs u L) (hS : ∀ b, I b → I' b) (hI : ∀ b, I b → ∀ o, w'.cell? ⟨b, o, none⟩ = w.cell? ⟨b, o, none⟩)
    (hL : ∀ b ∈ L, w'.heap[b]? = w.heap[b]?) : ROT (RO w' I' k) w' I' e size rs u L := by
  obtain ⟨xs, L', ho, hr, hc, rfl⟩ := h
  exact ⟨xs, L', ownsRow_block ho (fun b hb => hL b (by simp [hb])), hr, hc.mono (fun rs u L1 hb h => RO.kept hS hI (fun b hb' => hL b (by simp [hb b hb'])) h) (fun d u h => h.kept hS hI), rfl⟩

theorem OC.rd {R : List (List D) → Value → List Nat → Prop} {w : World} {I : Nat → Prop} : ∀ {ds : List D} {us : List Value} {L : List Nat}, OC R w I ds us L → (∀ rs u L1, R rs u L1 → Rd w (fun b => I b ∨ b ∈ L1) (.sl rs) u) → All2 (Rd w (fun b => I b ∨ b ∈ L)) ds us
  | [], [], _, _, _ => trivial
  | d :: ds, u :: us, L, h, hR => by
    obtain ⟨L1, L2, rfl, h1, h2⟩ := h
    refine ⟨?_, (OC.rd h2 hR).mono fun a _ b h => h.sub fun b hb => hb.imp id fun h => by simp [h]⟩
    cases d with
    | sl rs => exact (hR rs u L1 h1).sub fun b hb => hb.imp id fun h => by simp [h]
    | v x => exact h1.2.sub fun b hb => .inl hb
    | p cs => exact h1.2.sub fun b hb => .inl hb
    | f fn caps => exact h1.2.sub fun b hb => .inl hb
  | [], _ :: _, _, h, _ => h.elim
  | _ :: _, [], _, h, _ => h.elim

/-- What is owned can be read. -/
theorem ROT.rd' {R : List (List D) → Value → List Nat → Prop} {w : World} {I : Nat → Prop} {e : TypeId} {size : Nat} {rs : List (List D)} {u : Value} {L : List Nat} (h : ROT R w I e size rs u L) (hR : ∀ rs u L1, R rs u L1 → Rd w (fun b => I b ∨ b ∈ L1) (.sl rs) u) :
    Rd w (fun b => I b ∨ b ∈ L) (.sl rs) u := by
  obtain ⟨xs, L', ho, hr, hc, rfl⟩ := h
  rw [Rd.sl_iff]
  have hall := (hc.rd hR)
  rcases ho.2 with ⟨rfl, hn⟩ | ⟨g, cap, cur, rfl, _, hg, hcap, hmax, hcs, htake⟩
  · have : rs = [] := List.eq_nil_of_length_eq_zero hn
    subst this
    exact ⟨none, 0, rfl, Nat.le_refl _, Nat.zero_le _, fun i row h => by simp at h⟩
  · refine ⟨_, cap, rfl, hcap, hmax, fun i row hrow => ?_⟩
    have hrl : row.length = size := hr row (List.mem_of_getElem? hrow)
    refine ⟨g, 0, (xs.drop (i * size)).take size, rfl, ⟨.inr (by simp [Value.ownBlock]), fun j u hu => ?_⟩, ?_⟩
    · rw [List.getElem?_take] at hu
      split at hu
      · rw [List.getElem?_drop] at hu
        have hcell := ho.cells (g := g) rfl (i * size + j) u hu
        have hadd : (⟨g, 0, none⟩ : Addr).add (i * size + j) = ⟨g, i * size + j, none⟩ := by unfold Addr.add; split <;> simp_all
        rw [hadd] at hcell
        rw [hrl, Nat.zero_add]
        exact hcell
      · cases hu
    · have := ((hall.drop (i * size)).take size)
      rw [flat_row hr hrow] at this
      exact this.mono fun a _ b h => h.sub fun b hb => hb.imp id fun h => by simp [h]
theorem RO.rd {w : World} {I : Nat → Prop} : ∀ {k : Nat} {rs : List (List D)} {u : Value} {L : List Nat}, RO w I k rs u L → Rd w (fun b => I b ∨ b ∈ L) (.sl rs) u := by
  intro k
  induction k with
  | zero => exact fun h => h.2.sub fun b hb => .inl hb
  | succ k ih => rintro rs u L ⟨e, size, h⟩; exact h.rd' fun _ _ _ h => ih h
theorem ROT.rd {w : World} {I : Nat → Prop} {k : Nat} {e : TypeId} {size : Nat} {rs : List (List D)} {u : Value} {L : List Nat} (h : ROT (RO w I k) w I e size rs u L) : Rd w (fun b => I b ∨ b ∈ L) (.sl rs) u := h.rd' fun _ _ _ h => h.rd

/-- Its blocks are there. -/
theorem RO.lt {w : World} {I : Nat → Prop} : ∀ {k : Nat} {rs : List (List D)} {u : Value} {L : List Nat}, RO w I k rs u L → ∀ b ∈ L, b < w.heap.size := by
  intro k
  induction k with
  | zero => rintro rs u L ⟨rfl, _⟩ b hb; simp at hb
  | succ k ih =>
    have cells : ∀ {ds : List D} {us : List Value} {L : List Nat}, OC (RO w I k) w I ds us L → ∀ b ∈ L, b < w.heap.size := by
      intro ds
      induction ds with
      | nil => intro us L h b hb; cases us with
        | nil => cases h; simp at hb
        | cons => exact h.elim
      | cons d ds ihd =>
        intro us L h b hb
        cases us with
        | nil => exact h.elim
        | cons u us =>
          obtain ⟨L1, L2, rfl, h1, h2⟩ := h
          rcases List.mem_append.1 hb with hb | hb
          · cases d with
            | sl rs => exact ih h1 b hb
            | v x => rw [h1.1] at hb; simp at hb
            | p cs => rw [h1.1] at hb; simp at hb
            | f fn caps => rw [h1.1] at hb; simp at hb
          · exact ihd h2 b hb
    rintro rs u L ⟨e, size, xs, L', ho, hr, hc, rfl⟩ b hb
    rcases List.mem_append.1 hb with hb | hb
    · exact (ho.lt b (by simpa using hb)).2
    · exact cells hc b hb
theorem ROT.lt {w : World} {I : Nat → Prop} {k : Nat} {e : TypeId} {size : Nat} {rs : List (List D)} {u : Value} {L : List Nat} (h : ROT (RO w I k) w I e size rs u L) : ∀ b ∈ L, b < w.heap.size := RO.lt (k := k + 1) ⟨e, size, h⟩

end Go.AX
