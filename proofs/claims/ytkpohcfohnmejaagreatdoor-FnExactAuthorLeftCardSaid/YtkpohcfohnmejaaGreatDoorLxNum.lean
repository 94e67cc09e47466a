/- A part of the proof of the statement in the row text. -/
import Derived.Test.YtkpohcfohnmejaaGreatDoorLxCode
import Derived.Laws.Strings
/- Operations that only compute: what they leave in their slot. -/
set_option linter.unusedVariables false
set_option linter.unusedSimpArgs false
namespace Go.LX

variable {P : Program} {σ : St}

theorem OpW_put [Glob] {o : Oper} {t : Nat} {s : SV} {N : St → Prop} (hd : o.dst = some t) (ht : Nat.blt t σ.n = true)
    (h : ∀ (K : Ctx) (w : World) (I : Nat → Prop) (g : Gh) (tm : Array Value), Inv K w I g σ tm → ∃ u, (execOp (Act.eval ⟨tm, []⟩) o).run P w = .ok (.value u) w ∧ ShapeOK s u ∧ ∀ (i : Nat) (c : C), s.cells[i]? = some c → ∃ v, (valCells u)[i]? = some v ∧ CR w I g σ.objs c v)
    (hN : N (σ.put t s)) : OpW P o N σ := by
  intro K w I g tm hi
  obtain ⟨u, h1, h2, h3⟩ := h K w I g tm hi
  rw [h1]
  simp only [Oper.upon, Act.put, hd]
  exact ⟨trivial, _, I, g, hN, hi.put (Nat.le_of_ble_eq_true ht) h2 h3⟩

/-- An operation that only computes. -/
def PureOK [Glob] (P : Program) (σ : St) (o : Oper) (p : Prop) (s : SV) : Prop :=
  ∀ (K : Ctx) (w : World) (I : Nat → Prop) (g : Gh) (tm : Array Value), Inv K w I g σ tm → p →
    ∃ u, (execOp (Act.eval ⟨tm, []⟩) o).run P w = .ok (.value u) w ∧ ShapeOK s u ∧ ∀ (i : Nat) (c : C), s.cells[i]? = some c → ∃ v, (valCells u)[i]? = some v ∧ CR w I g σ.objs c v
theorem shape_one {w : World} {I : Nat → Prop} {g : Gh} {c : C} {u : Value} (h1 : u.oneCell' = true) (h2 : CR w I g σ.objs c u) : ShapeOK (.one c) u ∧ ∀ (i : Nat) (c' : C), (SV.one c).cells[i]? = some c' → ∃ v, (valCells u)[i]? = some v ∧ CR w I g σ.objs c' v := by
  refine ⟨h1, fun i c' hc => ?_⟩
  obtain ⟨rfl, rfl⟩ := one_cell hc
  exact ⟨u, by rw [val_one h1]; rfl, h2⟩
theorem PureOK.one [Glob] {o : Oper} {p : Prop} {c : C} (h : ∀ (K : Ctx) (w : World) (I : Nat → Prop) (g : Gh) (tm : Array Value), Inv K w I g σ tm → p → ∃ u, (execOp (Act.eval ⟨tm, []⟩) o).run P w = .ok (.value u) w ∧ u.oneCell' = true ∧ CR w I g σ.objs c u) : PureOK P σ o p (.one c) := by
  intro K w I g tm hi hp
  obtain ⟨u, h1, h2, h3⟩ := h K w I g tm hi hp
  exact ⟨u, h1, shape_one h2 h3⟩
theorem PureOK.i [Glob] {o : Oper} {p : Prop} {k : IntKind} {n : Int} (h : ∀ (K : Ctx) (w : World) (I : Nat → Prop) (g : Gh) (tm : Array Value), Inv K w I g σ tm → p → (execOp (Act.eval ⟨tm, []⟩) o).run P w = .ok (.value (.int k n)) w) : PureOK P σ o p (.one (.d (.i k) n)) :=
  .one fun K w I g tm hi hp => ⟨_, h K w I g tm hi hp, rfl, rfl⟩
theorem PureOK.bo [Glob] {o : Oper} {p : Prop} {b : Bool} (h : ∀ (K : Ctx) (w : World) (I : Nat → Prop) (g : Gh) (tm : Array Value), Inv K w I g σ tm → p → (execOp (Act.eval ⟨tm, []⟩) o).run P w = .ok (.value (.bool b)) w) : PureOK P σ o p (.one (.d .bo b)) :=
  .one fun K w I g tm hi hp => ⟨_, h K w I g tm hi hp, rfl, rfl⟩
theorem PureOK.u8 [Glob] {o : Oper} {p : Prop} {b : UInt8} (h : ∀ (K : Ctx) (w : World) (I : Nat → Prop) (g : Gh) (tm : Array Value), Inv K w I g σ tm → p → (execOp (Act.eval ⟨tm, []⟩) o).run P w = .ok (.value (.int .u8 (b.toNat : Int))) w) : PureOK P σ o p (.one (.d .u8 b)) :=
  .one fun K w I g tm hi hp => ⟨_, h K w I g tm hi hp, rfl, rfl⟩
theorem PureOK.st [Glob] {o : Oper} {p : Prop} {s : List UInt8} (h : ∀ (K : Ctx) (w : World) (I : Nat → Prop) (g : Gh) (tm : Array Value), Inv K w I g σ tm → p → (execOp (Act.eval ⟨tm, []⟩) o).run P w = .ok (.value (strV s)) w) : PureOK P σ o p (.one (.d .st s)) :=
  .one fun K w I g tm hi hp => ⟨_, h K w I g tm hi hp, rfl, rfl⟩

/-! ### Numbers -/
def toB (n : Int) : UInt8 := UInt8.ofNat (n % 256).toNat
theorem toB_nat (n : Int) : ((toB n).toNat : Int) = n % 256 := by
  unfold toB
  rw [UInt8.toNat_ofNat']
  omega
theorem toB_of {n : Int} (h0 : 0 ≤ n) (h1 : n < 256) : ((toB n).toNat : Int) = n := by rw [toB_nat]; omega
theorem u8_lt (b : UInt8) : (b.toNat : Int) < 256 := by have := b.toNat_lt; omega
/-- Does a number fit? (For the kinds that programs reckon in.) -/
def inR : IntKind → Int → Prop
  | .i64, n => -9223372036854775808 ≤ n ∧ n ≤ 9223372036854775807
  | .i32, n => -2147483648 ≤ n ∧ n ≤ 2147483647
  | .u64, n => 0 ≤ n ∧ n ≤ 18446744073709551615
  | .u32, n => 0 ≤ n ∧ n ≤ 4294967295
  | _, _ => False
theorem inR_wrap {k : IntKind} {n : Int} (h : inR k n) : k.wrap n = n := by
  cases k <;> simp only [inR] at h <;> first | exact h.elim | (simp only [IntKind.wrap, IntKind.bits, IntKind.signed]; simp [Int.bmod]; omega) | skip

/-! ### Data, cell by cell -/
def cellAt : (t : Ty) → t.T → Nat → Option (Σ s : Ty, s.T)
  | .pr a b, x, j => bif Nat.blt j a.w then cellAt a x.1 j else cellAt b x.2 (j - a.w)
  | .un, _, _ => none
  | .i k, x, j => bif Nat.beq j 0 then some ⟨.i k, x⟩ else none
  | .u8, x, j => bif Nat.beq j 0 then some ⟨.u8, x⟩ else none
  | .bo, x, j => bif Nat.beq j 0 then some ⟨.bo, x⟩ else none
  | .st, x, j => bif Nat.beq j 0 then some ⟨.st, x⟩ else none
  | .sl e, x, j => bif Nat.beq j 0 then some ⟨.sl e, x⟩ else none
/-- The cells of a datum that is read. -/
def cellsOf : (t : Ty) → t.T → List C
  | .pr a b, x => cellsOf a x.1 ++ cellsOf b x.2
  | .un, _ => []
  | .i k, x => [.d (.i k) x]
  | .u8, x => [.d .u8 x]
  | .bo, x => [.d .bo x]
  | .st, x => [.d .st x]
  | .sl e, x => [.d (.sl e) x]
/-- The same, inside object o. -/
def cellsV (o : Nat) : (t : Ty) → t.T → List C
  | .pr a b, x => cellsV o a x.1 ++ cellsV o b x.2
  | .un, _ => []
  | .i k, x => [.d (.i k) x]
  | .u8, x => [.d .u8 x]
  | .bo, x => [.d .bo x]
  | .st, x => [.d .st x]
  | .sl e, x => [.rf o (.vw (.sl e) x)]
/-- The same, of row i of object o, from cell j on. -/
def cellsN (o i : Nat) : (t : Ty) → t.T → Nat → List C
  | .pr a b, x, j => cellsN o i a x.1 j ++ cellsN o i b x.2 (j + a.w)
  | .un, _, _ => []
  | .i k, x, _ => [.d (.i k) x]
  | .u8, x, _ => [.d .u8 x]
  | .bo, x, _ => [.d .bo x]
  | .st, x, _ => [.d .st x]
  | .sl e, x, j => [.rf o (.ns i j)]
theorem cellsOf_len : ∀ {t : Ty} {x : t.T}, (cellsOf t x).length = t.w
  | .pr a b, x => by rw [cellsOf, List.length_append, cellsOf_len, cellsOf_len]; rfl
  | .un, _ => rfl
  | .i _, _ => rfl
  | .u8, _ => rfl
  | .bo, _ => rfl
  | .st, _ => rfl
  | .sl _, _ => rfl
theorem cellsV_len {o : Nat} : ∀ {t : Ty} {x : t.T}, (cellsV o t x).length = t.w
  | .pr a b, x => by rw [cellsV, List.length_append, cellsV_len, cellsV_len]; rfl
  | .un, _ => rfl
  | .i _, _ => rfl
  | .u8, _ => rfl
  | .bo, _ => rfl
  | .st, _ => rfl
  | .sl _, _ => rfl
theorem cellsN_len {o i : Nat} : ∀ {t : Ty} {x : t.T} {j : Nat}, (cellsN o i t x j).length = t.w
  | .pr a b, x, j => by rw [cellsN, List.length_append, cellsN_len, cellsN_len]; rfl
  | .un, _, _ => rfl
  | .i _, _, _ => rfl
  | .u8, _, _ => rfl
  | .bo, _, _ => rfl
  | .st, _, _ => rfl
  | .sl _, _, _ => rfl
theorem get_single {α : Type} {a b : α} {j : Nat} (h : [a][j]? = some b) : j = 0 ∧ b = a := by
  cases j with
  | zero => simp at h; exact ⟨rfl, h.symm⟩
  | succ j => simp at h
theorem get_app {α β : Type} {as bs : List α} {us vs : List β} {R : α → β → Prop} (hl : as.length = us.length) (h1 : ∀ (j : Nat) (a : α), as[j]? = some a → ∃ u, us[j]? = some u ∧ R a u) (h2 : ∀ (j : Nat) (a : α), bs[j]? = some a → ∃ u, vs[j]? = some u ∧ R a u) :
    ∀ (j : Nat) (a : α), (as ++ bs)[j]? = some a → ∃ u, (us ++ vs)[j]? = some u ∧ R a u := by
  intro j a hj
  rw [List.getElem?_append] at hj ⊢
  rw [← hl]
  split at hj
  · rename_i h; rw [if_pos h]; exact h1 j a hj
  · rename_i h; rw [if_neg h]; exact h2 _ a hj
theorem RT.cells {w : World} {I : Nat → Prop} {g : Gh} {ob : Nat → Option Ob} : ∀ {t : Ty} {x : t.T} {us : List Value}, RT w I t x us → ∀ (j : Nat) (c : C), (cellsOf t x)[j]? = some c → ∃ u, us[j]? = some u ∧ CR w I g ob c u
  | .pr a b, x, us, h => by
    obtain ⟨u1, u2, rfl, h1, h2⟩ := h
    exact get_app (by rw [cellsOf_len, h1.len]) (RT.cells h1) (RT.cells h2)
  | .un, _, _, h => fun j c hj => by simp [cellsOf] at hj
  | .i _, _, _, h => fun j c hj => by obtain ⟨rfl, rfl⟩ := get_single hj; subst h; exact ⟨_, rfl, rfl⟩
  | .u8, _, _, h => fun j c hj => by obtain ⟨rfl, rfl⟩ := get_single hj; subst h; exact ⟨_, rfl, rfl⟩
  | .bo, _, _, h => fun j c hj => by obtain ⟨rfl, rfl⟩ := get_single hj; subst h; exact ⟨_, rfl, rfl⟩
  | .st, _, _, h => fun j c hj => by obtain ⟨rfl, rfl⟩ := get_single hj; subst h; exact ⟨_, rfl, rfl⟩
  | .sl _, _, _, h => fun j c hj => by
    obtain ⟨rfl, rfl⟩ := get_single hj
    have h' := h
    obtain ⟨A, cap, rfl, _⟩ := h
    exact ⟨_, rfl, h'⟩
theorem RT.cellsV {w : World} {I : Nat → Prop} {g : Gh} {ob : Nat → Option Ob} {o : Nat} {e : TypeId} {t0 : Ty} {xs : List t0.T} (ho : ob o = some (.rows e t0 true xs)) : ∀ {t : Ty} {x : t.T} {us : List Value}, RT w (fun b => I b ∨ (b ∈ g.L o ∧ (g.base o).ownBlock ≠ some b)) t x us → ∀ (j : Nat) (c : C), (cellsV o t x)[j]? = some c → ∃ u, us[j]? = some u ∧ CR w I g ob c u
  | .pr a b, x, us, h => by
    obtain ⟨u1, u2, rfl, h1, h2⟩ := h
    exact get_app (by rw [cellsV_len, h1.len]) (RT.cellsV ho h1) (RT.cellsV ho h2)
  | .un, _, _, h => fun j c hj => by simp [LX.cellsV] at hj
  | .i _, _, _, h => fun j c hj => by obtain ⟨rfl, rfl⟩ := get_single hj; subst h; exact ⟨_, rfl, rfl⟩
  | .u8, _, _, h => fun j c hj => by obtain ⟨rfl, rfl⟩ := get_single hj; subst h; exact ⟨_, rfl, rfl⟩
  | .bo, _, _, h => fun j c hj => by obtain ⟨rfl, rfl⟩ := get_single hj; subst h; exact ⟨_, rfl, rfl⟩
  | .st, _, _, h => fun j c hj => by obtain ⟨rfl, rfl⟩ := get_single hj; subst h; exact ⟨_, rfl, rfl⟩
  | .sl _, _, _, h => fun j c hj => by
    obtain ⟨rfl, rfl⟩ := get_single hj
    have h' := h
    obtain ⟨A, cap, rfl, _⟩ := h
    refine ⟨_, rfl, ?_⟩
    show seeO _ _ _ _ _ (ob o) _ _
    rw [ho]
    exact h'
theorem slAt_app {a b : Ty} {j : Nat} : (slAt a j = true → slAt (.pr a b) j = true) ∧ (slAt b j = true → slAt (.pr a b) (a.w + j) = true) := by
  have hlt : ∀ {t : Ty} {j : Nat}, slAt t j = true → j < t.w := by
    intro t
    induction t with
    | pr a b iha ihb =>
      intro j h
      unfold slAt at h
      cases hb : Nat.blt j a.w with
      | true => have := Nat.le_of_ble_eq_true hb; simp only [Ty.w]; omega
      | false =>
        rw [hb] at h
        simp only [cond_false] at h
        have := ihb h
        simp only [Ty.w]; omega
    | sl e => intro j h; simp [slAt] at h; subst h; exact Nat.one_pos
    | _ => intro j h; simp [slAt] at h
  constructor
  · intro h
    have := hlt h
    unfold slAt
    rw [show Nat.blt j a.w = true from Nat.ble_eq_true_of_le this]
    exact h
  · intro h
    unfold slAt
    rw [show Nat.blt (a.w + j) a.w = false from by
      cases hb : Nat.blt (a.w + j) a.w with
      | false => rfl
      | true => have := Nat.le_of_ble_eq_true hb; omega]
    simp only [cond_false, Nat.add_sub_cancel_left]
    exact h
theorem OT.cellsN {w : World} {I : Nat → Prop} {g : Gh} {ob : Nat → Option Ob} {o i : Nat} : ∀ {t : Ty} {x : t.T} {us : List Value} {L : List Nat} {j0 : Nat}, OT w t x us L → (∀ j u, us[j]? = some u → slAt t j = true → seeO w I (g.addr o) (g.base o) (g.L o) (ob o) (.ns i (j0 + j)) u) →
    ∀ (j : Nat) (c : C), (cellsN o i t x j0)[j]? = some c → ∃ u, us[j]? = some u ∧ CR w I g ob c u
  | .pr a b, x, us, L, j0, h, hs => by
    obtain ⟨u1, u2, L1, L2, rfl, rfl, h1, h2⟩ := h
    refine get_app (by rw [cellsN_len, h1.len]) (OT.cellsN h1 fun j u hu hsl => hs j u ?_ (slAt_app.1 hsl)) (OT.cellsN h2 fun j u hu hsl => ?_)
    · rw [List.getElem?_append_left (List.getElem?_eq_some_iff.1 hu).1]; exact hu
    · rw [Nat.add_assoc]
      refine hs (a.w + j) u ?_ (slAt_app.2 hsl)
      rw [List.getElem?_append_right (by rw [h1.len]; omega), h1.len, Nat.add_sub_cancel_left]; exact hu
  | .un, _, _, _, _, h, _ => fun j c hj => by simp [LX.cellsN] at hj
  | .i _, _, _, _, _, h, _ => fun j c hj => by obtain ⟨rfl, rfl⟩ := get_single hj; obtain ⟨rfl, _⟩ := h; exact ⟨_, rfl, rfl⟩
  | .u8, _, _, _, _, h, _ => fun j c hj => by obtain ⟨rfl, rfl⟩ := get_single hj; obtain ⟨rfl, _⟩ := h; exact ⟨_, rfl, rfl⟩
  | .bo, _, _, _, _, h, _ => fun j c hj => by obtain ⟨rfl, rfl⟩ := get_single hj; obtain ⟨rfl, _⟩ := h; exact ⟨_, rfl, rfl⟩
  | .st, _, _, _, _, h, _ => fun j c hj => by obtain ⟨rfl, rfl⟩ := get_single hj; obtain ⟨rfl, _⟩ := h; exact ⟨_, rfl, rfl⟩
  | .sl _, _, _, _, _, h, hs => fun j c hj => by
    obtain ⟨rfl, rfl⟩ := get_single hj
    obtain ⟨u, _, _, _, rfl, _⟩ := h
    exact ⟨u, rfl, hs 0 u rfl rfl⟩

/-- What a slice cell reads as. -/
def slC (ob : Nat → Option Ob) : C → Option (Σ e : Ty, List e.T)
  | .d (.sl e) xs => some ⟨e, xs⟩
  | .rf o .ar => match ob o with
    | some (.rows _ t _ xs) => some ⟨t, xs⟩
    | some (.fz t _ xs) => some ⟨t, xs⟩
    | _ => none
  | .rf o (.sb off len) => match ob o with
    | some (.rows _ t _ xs) => some ⟨t, (xs.drop off).take len⟩
    | some (.fz t _ xs) => some ⟨t, (xs.drop off).take len⟩
    | _ => none
  | .rf o (.vw (.sl e) xs) => match ob o with
    | some (.rows _ _ true _) => some ⟨e, xs⟩
    | some (.fz _ true _) => some ⟨e, xs⟩
    | _ => none
  | .rf o (.ns i j) => match ob o with
    | some (.rows _ t true xs) => match cellAt t (xs.getD i (dflt t)) j with
      | some ⟨.sl e, ys⟩ => some ⟨e, ys⟩
      | _ => none
    | _ => none
  | _ => none
def C.oid : C → Nat
  | .rf o _ => o
  | _ => 0
theorem RT.sub_of {w : World} {S : Nat → Prop} {t : Ty} {xs : List t.T} {base u : Value} {off len : Nat} (h : RT w S (.sl t) xs [base]) (hs : SubOf base t.w xs.length off len u) : RT w S (.sl t) ((xs.drop off).take len) [u] := by
  obtain ⟨A, cap, hb, h1, h2, h3⟩ := h
  obtain ⟨A', cap', B, c, e1, rfl, e2, e3, e4, e5⟩ := hs
  have hl : ((xs.drop off).take len).length = len := by simp; omega
  simp only [List.cons.injEq, and_true] at hb
  rw [e1] at hb
  simp only [Value.slice.injEq] at hb
  obtain ⟨rfl, _, rfl⟩ := hb
  refine ⟨B, c, by rw [hl], by rw [hl]; exact e3, e4, fun i x hx => ?_⟩
  have hi : i < len := by have := (List.getElem?_eq_some_iff.1 hx).1; omega
  rw [List.getElem?_take, if_pos hi, List.getElem?_drop] at hx
  obtain ⟨b, f, rfl, rfl⟩ := e5 (by omega)
  obtain ⟨b', o', vs, hA, hc, hr⟩ := h3 _ x hx
  cases hA
  refine ⟨b, f + off * t.w, vs, rfl, ⟨hc.1, fun j u hu => ?_⟩, hr⟩
  have := hc.2 j u hu
  rw [Nat.add_mul, ← Nat.add_assoc] at this
  exact this
theorem RT.cell {w : World} {S : Nat → Prop} : ∀ {t : Ty} {x : t.T} {us : List Value}, RT w S t x us → ∀ {j : Nat} {s : Ty} {y : s.T}, cellAt t x j = some ⟨s, y⟩ → ∃ u, us[j]? = some u ∧ RT w S s y [u]
  | .pr a b, x, us, h, j, s, y, hc => by
    obtain ⟨u1, u2, rfl, h1, h2⟩ := h
    unfold cellAt at hc
    cases hb : Nat.blt j a.w with
    | true =>
      rw [hb] at hc
      obtain ⟨u, hu, hr⟩ := RT.cell h1 hc
      exact ⟨u, by rw [List.getElem?_append_left (List.getElem?_eq_some_iff.1 hu).1]; exact hu, hr⟩
    | false =>
      rw [hb] at hc
      obtain ⟨u, hu, hr⟩ := RT.cell h2 hc
      have : ¬ j < a.w := fun h => by rw [show Nat.blt j a.w = true from Nat.ble_eq_true_of_le h] at hb; cases hb
      exact ⟨u, by rw [List.getElem?_append_right (by rw [h1.len]; omega), h1.len]; exact hu, hr⟩
  | .un, _, _, _, _, _, _, hc => by simp [cellAt] at hc
  | .i _, _, _, h, j, _, _, hc => by
    cases j with
    | zero => simp [cellAt] at hc; obtain ⟨rfl, hc⟩ := hc; cases hc; subst h; exact ⟨_, rfl, rfl⟩
    | succ j => cases (show (none : Option (Σ s : Ty, s.T)) = some _ from hc)
  | .u8, _, _, h, j, _, _, hc => by
    cases j with
    | zero => simp [cellAt] at hc; obtain ⟨rfl, hc⟩ := hc; cases hc; subst h; exact ⟨_, rfl, rfl⟩
    | succ j => cases (show (none : Option (Σ s : Ty, s.T)) = some _ from hc)
  | .bo, _, _, h, j, _, _, hc => by
    cases j with
    | zero => simp [cellAt] at hc; obtain ⟨rfl, hc⟩ := hc; cases hc; subst h; exact ⟨_, rfl, rfl⟩
    | succ j => cases (show (none : Option (Σ s : Ty, s.T)) = some _ from hc)
  | .st, _, _, h, j, _, _, hc => by
    cases j with
    | zero => simp [cellAt] at hc; obtain ⟨rfl, hc⟩ := hc; cases hc; subst h; exact ⟨_, rfl, rfl⟩
    | succ j => cases (show (none : Option (Σ s : Ty, s.T)) = some _ from hc)
  | .sl _, _, _, h, j, _, _, hc => by
    cases j with
    | zero =>
      simp [cellAt] at hc
      obtain ⟨rfl, hc⟩ := hc
      cases hc
      have h' := h
      obtain ⟨A, cap, rfl, _⟩ := h
      exact ⟨_, rfl, h'⟩
    | succ j => cases (show (none : Option (Σ s : Ty, s.T)) = some _ from hc)
theorem CR.slC [Glob] {K : Ctx} {w : World} {I : Nat → Prop} {g : Gh} {tm : Array Value} (hi : Inv K w I g σ tm) {c : C} {u : Value} {e : Ty} {xs : List e.T} (h : CR w I g σ.objs c u) (hc : slC σ.objs c = some ⟨e, xs⟩) : RT w (fun b => I b ∨ b ∈ g.L c.oid) (.sl e) xs [u] := by
  have base : ∀ {o : Nat} {q : Ob}, σ.objs o = some q → (∀ {e t dp xs}, q = .rows e t dp xs → RT w (fun b => I b ∨ b ∈ g.L o) (.sl t) xs [g.base o]) ∧ (∀ {t dp xs}, q = .fz t dp xs → RT w (fun b => I b ∨ b ∈ g.L o) (.sl t) xs [g.base o]) := by
    intro o q hq
    have hob := hi.obj o
    unfold ObR at hob
    rw [hq] at hob
    exact ⟨fun e => by subst e; exact hob.rt, fun e => by subst e; exact hob.2.sub fun b hb => .inl hb⟩
  unfold LX.slC at hc
  split at hc
  · simp only [Option.some.injEq, Sigma.mk.injEq] at hc
    obtain ⟨rfl, hc⟩ := hc
    cases hc
    exact RT.sub h fun b hb => .inl hb
  · rename_i o
    have h' : seeO w I (g.addr o) (g.base o) (g.L o) (σ.objs o) .ar u := h
    split at hc
    · rename_i hq
      rw [hq] at h'
      cases hc
      have : u = g.base o := h'
      subst this
      exact (base hq).1 rfl
    · rename_i hq
      rw [hq] at h'
      cases hc
      have : u = g.base o := h'
      subst this
      exact (base hq).2 rfl
    · cases hc
  · rename_i o off len
    have h' : seeO w I (g.addr o) (g.base o) (g.L o) (σ.objs o) (.sb off len) u := h
    split at hc
    · rename_i hq
      rw [hq] at h'
      cases hc
      exact ((base hq).1 rfl).sub_of h'
    · rename_i hq
      rw [hq] at h'
      cases hc
      exact ((base hq).2 rfl).sub_of h'
    · cases hc
  · rename_i o e' xs'
    have h' : seeO w I (g.addr o) (g.base o) (g.L o) (σ.objs o) (.vw (.sl e') xs') u := h
    split at hc
    · rename_i hq
      rw [hq] at h'
      cases hc
      exact RT.sub h' fun b hb => hb.imp id fun hb => hb.1
    · rename_i hq
      rw [hq] at h'
      cases hc
      exact RT.sub h' fun b hb => .inl hb
    · cases hc
  · rename_i o i j
    have h' : seeO w I (g.addr o) (g.base o) (g.L o) (σ.objs o) (.ns i j) u := h
    split at hc
    · rename_i hq
      rw [hq] at h'
      obtain ⟨_, b, f, cap, h1, h2, h3⟩ := h'
      have hr := (base hq).1 rfl
      split at hc
      · rename_i e' ys hce
        cases hc
        rw [show _ = _ from List.getD_eq_getElem?_getD, List.getElem?_eq_getElem h2] at hce
        obtain ⟨A, c0, e1, _, _, e4⟩ := hr
        obtain ⟨b', o', vs, rfl, hca, hrow⟩ := e4 i _ (List.getElem?_eq_getElem h2)
        rw [h1] at e1
        simp at e1
        obtain ⟨⟨rfl, rfl⟩, _⟩ := e1
        obtain ⟨v, hv, hrv⟩ := RT.cell hrow hce
        have := hca.2 j v hv
        rw [h3] at this
        cases this
        exact hrv
      · cases hc
    · cases hc
  · cases hc
end Go.LX

/- Numbers, bools, strings: operations that only compute. -/
set_option linter.unusedVariables false
set_option linter.unusedSimpArgs false
namespace Go.LX

variable {P : Program} {σ : St}

def rI (k : IntKind) (n : Int) : SV := .one (.d (.i k) n)
def rB (b : Bool) : SV := .one (.d .bo b)
def rU (b : UInt8) : SV := .one (.d .u8 b)
def rS (s : List UInt8) : SV := .one (.d .st s)
/-- A sum or a product: as it is, where it fits (nw); else wrapped. -/
def arith (nw : Bool) (k : IntKind) (n : Int) : Prop × SV := bif nw then (inR k n, .one (.d (.i k) n)) else (True, .one (.d (.i k) (k.wrap n)))
def iAnd (k : IntKind) (a b : Int) : Int := k.wrap (BitVec.ofInt k.bits a &&& BitVec.ofInt k.bits b).toNat
def iOr (k : IntKind) (a b : Int) : Int := k.wrap (BitVec.ofInt k.bits a ||| BitVec.ofInt k.bits b).toNat
def iBin (nw : Bool) (op : BinOp) (k : IntKind) (a b : Int) : Option (Prop × SV) :=
  match op with
  | .add => some (arith nw k (a + b))
  | .sub => some (arith nw k (a - b))
  | .mul => some (arith nw k (a * b))
  | .quo => some (bif nw then (0 ≤ a ∧ 0 < b ∧ inR k a, .one (.d (.i k) (a / b))) else (b ≠ 0, .one (.d (.i k) (k.wrap (a.tdiv b)))))
  | .rem => some (bif nw then (0 ≤ a ∧ 0 < b, .one (.d (.i k) (a % b))) else (b ≠ 0, .one (.d (.i k) (a.tmod b))))
  | .eql => some (True, .one (.d .bo (decide (a = b))))
  | .neq => some (True, .one (.d .bo (!decide (a = b))))
  | .lss => some (True, .one (.d .bo (decide (a < b))))
  | .leq => some (True, .one (.d .bo (decide (a ≤ b))))
  | .gtr => some (True, .one (.d .bo (decide (b < a))))
  | .geq => some (True, .one (.d .bo (decide (b ≤ a))))
  | .and => some (True, .one (.d (.i k) (iAnd k a b)))
  | .or => some (True, .one (.d (.i k) (iOr k a b)))
  | .shl => some (0 ≤ b ∧ (arith nw k (a * 2 ^ min b.toNat k.bits)).1, (arith nw k (a * 2 ^ min b.toNat k.bits)).2)
  | .shr => some (0 ≤ b, .one (.d (.i k) (a / 2 ^ min b.toNat k.bits)))
  | _ => none
def uBin (op : BinOp) (a b : UInt8) : Option SV :=
  match op with
  | .add => some (.one (.d .u8 (toB (a.toNat + b.toNat))))
  | .sub => some (.one (.d .u8 (toB (a.toNat - b.toNat))))
  | .eql => some (.one (.d .bo (decide ((a.toNat : Int) = b.toNat))))
  | .neq => some (.one (.d .bo (!decide ((a.toNat : Int) = b.toNat))))
  | .lss => some (.one (.d .bo (decide ((a.toNat : Int) < b.toNat))))
  | .leq => some (.one (.d .bo (decide ((a.toNat : Int) ≤ b.toNat))))
  | .gtr => some (.one (.d .bo (decide ((b.toNat : Int) < a.toNat))))
  | .geq => some (.one (.d .bo (decide ((b.toNat : Int) ≤ a.toNat))))
  | .and => some (.one (.d .u8 (a &&& b)))
  | .or => some (.one (.d .u8 (a ||| b)))
  | .quo => match Nat.beq b.toNat 0 with | true => none | false => some (.one (.d .u8 (a / b)))
  | .rem => match Nat.beq b.toNat 0 with | true => none | false => some (.one (.d .u8 (a % b)))
  | _ => none
def sBin (op : BinOp) (a b : List UInt8) : Option (Prop × SV) :=
  match op with
  | .add => some ((a.length : Int) + b.length ≤ 9223372036854775807, .one (.d .st (a ++ b)))
  | .eql => some (True, .one (.d .bo (decide (a = b))))
  | .neq => some (True, .one (.d .bo (!decide (a = b))))
  | _ => none
def bBin (op : BinOp) (a b : Bool) : Option SV :=
  match op with
  | .eql => some (.one (.d .bo (a == b)))
  | .neq => some (.one (.d .bo (a != b)))
  | _ => none
def isBoolB (P : Program) (ty : TypeId) : Bool := match P.underlying ty with | some .bool => true | _ => false
/-- Operands of one kind of number against another (shifts). -/
def shB (op : BinOp) : Bool := match op with | .shl | .shr => true | _ => false
def evBin (P : Program) (nw : Bool) (op : BinOp) (ty : TypeId) (x y : SV) : Option (Prop × SV) :=
  match x, y with
  | .one (.d (.i k) a), .one (.d (.i k') b) => match shB op, decEq k k' with
    | true, _ => iBin nw op k a b
    | false, isTrue _ => iBin nw op k a b
    | false, isFalse _ => none
  | .one (.d (.i k) a), .one (.d .u8 b) => match shB op with
    | true => iBin nw op k a (b.toNat : Int)
    | false => none
  | .one (.d .u8 a), .one (.d .u8 b) => match shB op with
    | true => none
    | false => (uBin op a b).map fun s => (True, s)
  | .one (.d .u8 a), .one (.d (.i k) b) => match op with
    | .shr => some (0 ≤ b, .one (.d .u8 (toB (a.toNat / 2 ^ min b.toNat 8))))
    | .shl => some (0 ≤ b, .one (.d .u8 (toB (a.toNat * 2 ^ min b.toNat 8))))
    | _ => none
  | .one (.d .st a), .one (.d .st b) => sBin op a b
  | .one (.d .bo a), .one (.d .bo b) => bif isBoolB P ty then (bBin op a b).map fun s => (True, s) else none
  | _, _ => none

theorem beqD {α : Type} [BEq α] [LawfulBEq α] [DecidableEq α] (a b : α) : (a == b) = decide (a = b) := by
  rw [Bool.eq_iff_iff]; simp
theorem arith_run {nw : Bool} {k : IntKind} {n : Int} {p : Prop} {s : SV} (h : arith nw k n = (p, s)) (hp : p) : s = .one (.d (.i k) (k.wrap n)) := by
  cases nw with
  | true =>
    simp only [arith, cond_true, Prod.mk.injEq] at h
    obtain ⟨rfl, rfl⟩ := h
    rw [inR_wrap hp]
  | false =>
    simp only [arith, cond_false, Prod.mk.injEq] at h
    exact h.2.symm
/-- What a binary operation leaves, whatever the world. -/
def BinOK (P : Program) (op : BinOp) (ty : TypeId) (a b : Value) (s : SV) : Prop :=
  ∃ v, (∀ w x y, ((do eqGuard op ty x y a b; binOp op ty a b : Sem Value)).run P w = .ok v w) ∧ v.oneCell' = true ∧ ∃ c, s = .one c ∧ ∀ w I g ob, CR w I g ob c v
theorem BinOK.i {op : BinOp} {ty : TypeId} {a b : Value} {s : SV} {k : IntKind} (m : Int) (h : ∀ w x y, ((do eqGuard op ty x y a b; binOp op ty a b : Sem Value)).run P w = .ok (.int k m) w) (hs : s = .one (.d (.i k) m)) : BinOK P op ty a b s := ⟨_, h, rfl, _, hs, fun _ _ _ _ => rfl⟩
theorem BinOK.u {op : BinOp} {ty : TypeId} {a b : Value} {s : SV} (m : UInt8) (h : ∀ w x y, ((do eqGuard op ty x y a b; binOp op ty a b : Sem Value)).run P w = .ok (.int .u8 (m.toNat : Int)) w) (hs : s = .one (.d .u8 m)) : BinOK P op ty a b s := ⟨_, h, rfl, _, hs, fun _ _ _ _ => rfl⟩
theorem BinOK.b {op : BinOp} {ty : TypeId} {a b : Value} {s : SV} (m : Bool) (h : ∀ w x y, ((do eqGuard op ty x y a b; binOp op ty a b : Sem Value)).run P w = .ok (.bool m) w) (hs : s = .one (.d .bo m)) : BinOK P op ty a b s := ⟨_, h, rfl, _, hs, fun _ _ _ _ => rfl⟩
theorem BinOK.s {op : BinOp} {ty : TypeId} {a b : Value} {s : SV} (m : List UInt8) (h : ∀ w x y, ((do eqGuard op ty x y a b; binOp op ty a b : Sem Value)).run P w = .ok (strV m) w) (hs : s = .one (.d .st m)) : BinOK P op ty a b s := ⟨_, h, rfl, _, hs, fun _ _ _ _ => rfl⟩

theorem tdiv_pos {a b : Int} (h0 : 0 ≤ a) (hb : 0 < b) : a.tdiv b = a / b := Int.tdiv_eq_ediv_of_nonneg h0
theorem div_in {k : IntKind} {a b : Int} (h0 : 0 ≤ a) (hb : 0 < b) (h : inR k a) : inR k (a / b) := by
  have h1 : 0 ≤ a / b := Int.ediv_nonneg h0 (by omega)
  have h2 : a / b ≤ a := Int.ediv_le_self _ h0
  cases k <;> simp only [inR] at h ⊢ <;> first | exact h | omega
theorem iBin_ok {nw : Bool} {op : BinOp} {ty : TypeId} {k : IntKind} {a b : Int} {p : Prop} {s : SV} (h : iBin nw op k a b = some (p, s)) (hs : shB op = false) (hp : p) : BinOK P op ty (.int k a) (.int k b) s := by
  cases op <;> simp only [iBin, Option.some.injEq, reduceCtorEq, shB] at h hs
  case add => exact .i _ (fun w x y => by simp [eqGuard, binOp, Op.intArith]) (arith_run h hp)
  case sub => exact .i _ (fun w x y => by simp [eqGuard, binOp, Op.intArith]) (arith_run h hp)
  case mul => exact .i _ (fun w x y => by simp [eqGuard, binOp, Op.intArith]) (arith_run h hp)
  case quo =>
    cases nw with
    | true =>
      simp only [cond_true, Prod.mk.injEq] at h
      obtain ⟨rfl, rfl⟩ := h
      obtain ⟨h1, h2, h3⟩ := hp
      have hb : ¬ b = 0 := by omega
      exact .i (a / b) (fun w x y => by simp [eqGuard, binOp, Op.intDiv, hb, tdiv_pos h1 h2, inR_wrap (div_in h1 h2 h3)]) rfl
    | false =>
      simp only [cond_false, Prod.mk.injEq] at h
      obtain ⟨rfl, rfl⟩ := h
      exact .i _ (fun w x y => by simp [eqGuard, binOp, Op.intDiv, hp]) rfl
  case rem =>
    cases nw with
    | true =>
      simp only [cond_true, Prod.mk.injEq] at h
      obtain ⟨rfl, rfl⟩ := h
      obtain ⟨h1, h2⟩ := hp
      have hb : ¬ b = 0 := by omega
      exact .i (a % b) (fun w x y => by simp [eqGuard, binOp, Op.intDiv, hb, Int.tmod_eq_emod_of_nonneg h1]) rfl
    | false =>
      simp only [cond_false, Prod.mk.injEq] at h
      obtain ⟨rfl, rfl⟩ := h
      exact .i _ (fun w x y => by simp [eqGuard, binOp, Op.intDiv, hp]) rfl
  case eql =>
    simp only [Prod.mk.injEq] at h
    exact .b _ (fun w x y => by simp [eqGuard, binOp, Op.intCmp, beqD]) h.2.symm
  case neq =>
    simp only [Prod.mk.injEq] at h
    exact .b _ (fun w x y => by simp [eqGuard, binOp, Op.intCmp, bne, beqD]) h.2.symm
  case lss =>
    simp only [Prod.mk.injEq] at h
    exact .b _ (fun w x y => by simp [eqGuard, binOp, Op.intCmp]) h.2.symm
  case leq =>
    simp only [Prod.mk.injEq] at h
    exact .b _ (fun w x y => by simp [eqGuard, binOp, Op.intCmp]) h.2.symm
  case gtr =>
    simp only [Prod.mk.injEq] at h
    exact .b _ (fun w x y => by simp [eqGuard, binOp, Op.intCmp]) h.2.symm
  case geq =>
    simp only [Prod.mk.injEq] at h
    exact .b _ (fun w x y => by simp [eqGuard, binOp, Op.intCmp]) h.2.symm
  case and =>
    simp only [Prod.mk.injEq] at h
    exact .i (iAnd k a b) (fun w x y => by simp [eqGuard, binOp, Op.intBits, iAnd]) h.2.symm
  case or =>
    simp only [Prod.mk.injEq] at h
    exact .i (iOr k a b) (fun w x y => by simp [eqGuard, binOp, Op.intBits, iOr]) h.2.symm
theorem fdiv_pow (a : Int) (n : Nat) : a.fdiv (2 ^ n) = a / 2 ^ n := Int.fdiv_eq_ediv_of_nonneg _ (by
  have : (0 : Int) < 2 ^ n := Int.pow_pos (by decide)
  omega)
theorem iBin_sh {nw : Bool} {op : BinOp} {ty : TypeId} {k k' : IntKind} {a b : Int} {p : Prop} {s : SV} (h : iBin nw op k a b = some (p, s)) (hs : shB op = true) (hp : p) : BinOK P op ty (.int k a) (.int k' b) s := by
  cases op <;> simp only [iBin, Option.some.injEq, Prod.mk.injEq, reduceCtorEq, shB] at h hs
  case shl =>
    obtain ⟨rfl, h⟩ := h
    have hb : ¬ b < 0 := by have := hp.1; omega
    exact .i (k.wrap (a * 2 ^ min b.toNat k.bits)) (fun w x y => by simp [eqGuard, binOp, Op.shift, hb]) (arith_run (p := (arith nw k (a * 2 ^ min b.toNat k.bits)).1) (by rw [← h]) hp.2)
  case shr =>
    obtain ⟨rfl, rfl⟩ := h
    have hb : ¬ b < 0 := by omega
    exact .i _ (fun w x y => by simp [eqGuard, binOp, Op.shift, hb, fdiv_pow]) rfl
theorem u8_wrap (n : Int) : IntKind.u8.wrap n = ((toB n).toNat : Int) := by rw [toB_nat, IntKind.wrap_u8]
theorem bv8 (a : UInt8) : BitVec.ofInt 8 (a.toNat : Int) = a.toBitVec := by
  apply BitVec.eq_of_toNat_eq
  rw [BitVec.toNat_ofInt]
  have := a.toNat_lt
  show ((a.toNat : Int) % _).toNat = a.toNat
  omega
theorem uBin_ok {op : BinOp} {ty : TypeId} {a b : UInt8} {s : SV} (h : uBin op a b = some s) (hs : shB op = false) : BinOK P op ty (.int .u8 (a.toNat : Int)) (.int .u8 (b.toNat : Int)) s := by
  cases op <;> simp only [uBin, Option.some.injEq, reduceCtorEq, shB] at h hs
  case add => exact .u _ (fun w x y => by simp [eqGuard, binOp, Op.intArith, u8_wrap]) h.symm
  case sub => exact .u _ (fun w x y => by simp [eqGuard, binOp, Op.intArith, u8_wrap]) h.symm
  case eql => exact .b _ (fun w x y => by simp [eqGuard, binOp, Op.intCmp, beqD]) h.symm
  case neq => exact .b _ (fun w x y => by simp [eqGuard, binOp, Op.intCmp, bne, beqD]) h.symm
  case lss => exact .b _ (fun w x y => by simp [eqGuard, binOp, Op.intCmp]) h.symm
  case leq => exact .b _ (fun w x y => by simp [eqGuard, binOp, Op.intCmp]) h.symm
  case gtr => exact .b _ (fun w x y => by simp [eqGuard, binOp, Op.intCmp]) h.symm
  case geq => exact .b _ (fun w x y => by simp [eqGuard, binOp, Op.intCmp]) h.symm
  case and =>
    refine .u (a &&& b) (fun w x y => ?_) h.symm
    have e : IntKind.u8.wrap (BitVec.ofInt IntKind.u8.bits (a.toNat : Int) &&& BitVec.ofInt IntKind.u8.bits (b.toNat : Int)).toNat = ((a &&& b).toNat : Int) := by
      rw [show IntKind.u8.bits = 8 from rfl, bv8, bv8, u8_wrap, toB_nat]
      have : ((a &&& b).toNat : Int) < 256 := u8_lt _
      have h2 : (a.toBitVec &&& b.toBitVec).toNat = (a &&& b).toNat := rfl
      rw [h2]; omega
    simp only [eqGuard, binOp, Op.intBits, e]; rfl
  case or =>
    refine .u (a ||| b) (fun w x y => ?_) h.symm
    have e : IntKind.u8.wrap (BitVec.ofInt IntKind.u8.bits (a.toNat : Int) ||| BitVec.ofInt IntKind.u8.bits (b.toNat : Int)).toNat = ((a ||| b).toNat : Int) := by
      rw [show IntKind.u8.bits = 8 from rfl, bv8, bv8, u8_wrap, toB_nat]
      have : ((a ||| b).toNat : Int) < 256 := u8_lt _
      have h2 : (a.toBitVec ||| b.toBitVec).toNat = (a ||| b).toNat := rfl
      rw [h2]; omega
    simp only [eqGuard, binOp, Op.intBits, e]; rfl
  case quo =>
    split at h
    · cases h
    · rename_i hb
      have hb0 : b.toNat ≠ 0 := fun e => by rw [e] at hb; cases hb
      have hb1 : ¬ (b.toNat : Int) = 0 := by omega
      refine .u (a / b) (fun w x y => ?_) (Option.some.inj h).symm
      have e : IntKind.u8.wrap ((a.toNat : Int) / (b.toNat : Int)) = (a.toNat : Int) / (b.toNat : Int) := by
        have h1 : a.toNat / b.toNat ≤ a.toNat := Nat.div_le_self _ _
        have h2 := a.toNat_lt
        rw [u8_wrap, toB_nat, show (a.toNat : Int) / (b.toNat : Int) = ((a.toNat / b.toNat : Nat) : Int) by rw [Int.natCast_ediv]]
        generalize a.toNat / b.toNat = q at *
        omega
      simp [eqGuard, binOp, Op.intDiv, hb0, hb1, Int.tdiv_eq_ediv_of_nonneg, e]
  case rem =>
    split at h
    · cases h
    · rename_i hb
      have hb0 : b.toNat ≠ 0 := fun e => by rw [e] at hb; cases hb
      have hb1 : ¬ (b.toNat : Int) = 0 := by omega
      refine .u (a % b) (fun w x y => ?_) (Option.some.inj h).symm
      have e : (a.toNat : Int).tmod (b.toNat : Int) = ((a % b).toNat : Int) := by
        rw [Int.tmod_eq_emod_of_nonneg (by omega), UInt8.toNat_mod, ← Int.natCast_emod]
      simp [eqGuard, binOp, Op.intDiv, hb0, hb1, e]
theorem bytes_toList (s : List UInt8) : (⟨s.toArray⟩ : ByteArray).toList = s := by rw [ByteArray.toList_eq]
theorem sBin_ok {op : BinOp} {ty : TypeId} {a b : List UInt8} {p : Prop} {s : SV} (h : sBin op a b = some (p, s)) (hp : p) : BinOK P op ty (strV a) (strV b) s := by
  cases op <;> simp only [sBin, Option.some.injEq, Prod.mk.injEq, reduceCtorEq] at h
  case add =>
    obtain ⟨rfl, rfl⟩ := h
    have hle : ¬ ((((a.length + b.length : Nat) : Int)) > IntKind.i64.max) := by
      have : IntKind.i64.max = 9223372036854775807 := rfl
      rw [this]; omega
    refine .s (a ++ b) (fun w x y => ?_) rfl
    have hle' : ¬ IntKind.i64.max < (a.length : Int) + b.length := by simpa using hle
    have e : (⟨a.toArray⟩ : ByteArray) ++ ⟨b.toArray⟩ = ⟨(a ++ b).toArray⟩ := by
      apply ByteArray.ext; simp
    simp [eqGuard, binOp, Op.stringOp, strV, ByteArray.size, e]; omega
  case eql => exact .b _ (fun w x y => by simp [eqGuard, binOp, Op.stringOp, strV, bytes_toList, beqD]) h.2.symm
  case neq => exact .b _ (fun w x y => by simp [eqGuard, binOp, Op.stringOp, strV, bytes_toList, beqD]) h.2.symm

theorem bBin_ok {op : BinOp} {ty : TypeId} {a b : Bool} {s : SV} (hty : isBoolB P ty = true) (h : bBin op a b = some s) : BinOK P op ty (.bool a) (.bool b) s := by
  have hty' : P.underlying ty = some .bool := by
    unfold isBoolB at hty
    split at hty
    · assumption
    · cases hty
  cases op <;> simp only [bBin, Option.some.injEq, reduceCtorEq] at h
  case eql => exact .b _ (fun w x y => by simp [eqGuard, binOp, Op.equal, run_eqB hty']) h.symm
  case neq => exact .b _ (fun w x y => by simp [eqGuard, binOp, Op.equal, run_eqB hty', bne]) h.symm

theorem Inv.lit [Glob] {K : Ctx} {w : World} {I : Nat → Prop} {g : Gh} {tm : Array Value} (h : Inv K w I g σ tm) {x : Operand} {c : C} (hx : σ.ev x = .one c) : match c with
    | .d (.i k) n => Act.eval ⟨tm, []⟩ x = .int k n
    | .d .u8 n => Act.eval ⟨tm, []⟩ x = .int .u8 (n.toNat : Int)
    | .d .bo n => Act.eval ⟨tm, []⟩ x = .bool n
    | .d .st n => Act.eval ⟨tm, []⟩ x = strV n
    | _ => True := by
  have := (h.ev_one hx).1
  split
  · have : [Act.eval ⟨tm, []⟩ x] = [_] := this; simpa using this
  · have : [Act.eval ⟨tm, []⟩ x] = [_] := this; simpa using this
  · have : [Act.eval ⟨tm, []⟩ x] = [_] := this; simpa using this
  · have : [Act.eval ⟨tm, []⟩ x] = [_] := this; simpa using this
  · trivial

theorem evBin_ok [Glob] {nw : Bool} {o : Oper} {op : BinOp} {ty ty' : TypeId} {x y : Operand} {p : Prop} {s : SV} (ho : o.op = .binOp op ty x y ty') (h : evBin P nw op ty (σ.ev x) (σ.ev y) = some (p, s)) : PureOK P σ o p s := by
  intro K w I g tm hi hp
  have fin : ∀ a b, Act.eval ⟨tm, []⟩ x = a → Act.eval ⟨tm, []⟩ y = b → BinOK P op ty a b s → ∃ u, (execOp (Act.eval ⟨tm, []⟩) o).run P w = .ok (.value u) w ∧ ShapeOK s u ∧ ∀ (i : Nat) (c : C), s.cells[i]? = some c → ∃ v, (valCells u)[i]? = some v ∧ CR w I g σ.objs c v := by
    rintro a b ha hb ⟨v, h1, h2, c, rfl, h3⟩
    refine ⟨v, ?_, shape_one h2 (h3 _ _ _ _)⟩
    have := h1 w x y
    simp only [Sem.run_bind] at this
    simp only [execOp, ho, ha, hb, Sem.run_bind, this, Result.andThen_ok, Sem.run_pure]
  unfold evBin at h
  split at h
  · rename_i k a k' b hx hy
    have ex := hi.lit hx
    have ey := hi.lit hy
    split at h
    · exact fin _ _ ex ey (iBin_sh h (by assumption) hp)
    · rename_i hk h1 _; subst hk; exact fin _ _ ex ey (iBin_ok h h1 hp)
    · cases h
  · rename_i k a b hx hy
    have ex := hi.lit hx
    have ey := hi.lit hy
    split at h
    · exact fin _ _ ex ey (iBin_sh h (by assumption) hp)
    · cases h
  · rename_i a b hx hy
    have ex := hi.lit hx
    have ey := hi.lit hy
    split at h
    · cases h
    · simp only [Option.map_eq_some_iff, Prod.mk.injEq] at h
      obtain ⟨s', h1, _, rfl⟩ := h
      exact fin _ _ ex ey (uBin_ok h1 (by assumption))
  · rename_i a k b hx hy
    have ex := hi.lit hx
    have ey := hi.lit hy
    split at h
    · simp only [Option.some.injEq, Prod.mk.injEq] at h
      obtain ⟨rfl, rfl⟩ := h
      have hb : ¬ b < 0 := Int.not_lt.2 hp
      refine fin _ _ ex ey (.u _ (fun w x y => ?_) rfl)
      have h0 : (0 : Int) ≤ (a.toNat : Int) / 2 ^ min b.toNat 8 := Int.ediv_nonneg (by omega) (by have : (0 : Int) < 2 ^ min b.toNat 8 := Int.pow_pos (by decide); omega)
      have h1 : (a.toNat : Int) / 2 ^ min b.toNat 8 ≤ a.toNat := Int.ediv_le_self _ (by omega)
      have := u8_lt a
      simp [eqGuard, binOp, Op.shift, hb, fdiv_pow, show IntKind.u8.bits = 8 from rfl]
      rw [toB_of h0 (by omega)]
    · simp only [Option.some.injEq, Prod.mk.injEq] at h
      obtain ⟨rfl, rfl⟩ := h
      have hb : ¬ b < 0 := Int.not_lt.2 hp
      exact fin _ _ ex ey (.u _ (fun w x y => by simp [eqGuard, binOp, Op.shift, hb, u8_wrap, show IntKind.u8.bits = 8 from rfl]) rfl)
    · cases h
  · rename_i a b hx hy
    exact fin _ _ (hi.lit hx) (hi.lit hy) (sBin_ok h hp)
  · rename_i a b hx hy
    cases hb : isBoolB P ty with
    | false => rw [hb] at h; cases h
    | true =>
      rw [hb] at h
      simp only [cond_true, Option.map_eq_some_iff, Prod.mk.injEq] at h
      obtain ⟨s', h1, _, rfl⟩ := h
      exact fin _ _ (hi.lit hx) (hi.lit hy) (bBin_ok hb h1)
  · cases h

/-! ### One operand -/
def evUn (nw : Bool) (op : UnOp) (x : SV) : Option (Prop × SV) :=
  match op, x with
  | .not, .one (.d .bo b) => some (True, .one (.d .bo (!b)))
  | .neg, .one (.d (.i k) n) => some (arith nw k (0 - n))
  | _, _ => none
theorem evUn_ok [Glob] {nw : Bool} {o : Oper} {op : UnOp} {ty : TypeId} {x : Operand} {p : Prop} {s : SV} (ho : o.op = .unOp op ty x) (h : evUn nw op (σ.ev x) = some (p, s)) : PureOK P σ o p s := by
  unfold evUn at h
  split at h
  · rename_i b hx
    simp only [Option.some.injEq, Prod.mk.injEq] at h
    obtain ⟨rfl, rfl⟩ := h
    exact .bo fun K w I g tm hi _ => by simp [execOp, ho, hi.ev_bo hx, Op.unary]
  · rename_i k n hx
    simp only [Option.some.injEq] at h
    intro K w I g tm hi hp
    rw [arith_run h hp]
    exact (PureOK.i (p := True) fun K w I g tm hi _ => by simp [execOp, ho, hi.ev_i hx, Op.unary, Op.intArith]) K w I g tm hi trivial
  · cases h

/-- What a type is to a conversion of numbers. -/
def toNum (P : Program) (dst : TypeId) : Option IntKind := match P.underlying dst with | some (.int k) => some k | _ => none
def hasTy (P : Program) (src : TypeId) : Bool := (P.underlying src).isSome
def u8In : IntKind → Bool
  | .i8 | .u8 => false
  | _ => true
def isU8 : IntKind → Bool
  | .u8 => true
  | _ => false
def convTo (nw : Bool) (k : IntKind) : SV → Option (Prop × SV)
  | .one (.d (.i _) n) => some (bif isU8 k then (True, .one (.d .u8 (toB n))) else arith nw k n)
  | .one (.d .u8 n) => bif isU8 k then some (True, .one (.d .u8 n)) else bif u8In k then some (True, .one (.d (.i k) (n.toNat : Int))) else none
  | _ => none
def evConv (P : Program) (nw : Bool) (src dst : TypeId) (x : SV) : Option (Prop × SV) := bif hasTy P src then (toNum P dst).bind fun k => convTo nw k x else none
theorem u8In_wrap {k : IntKind} (h : u8In k = true) (n : UInt8) : k.wrap (n.toNat : Int) = n.toNat := by
  have := u8_lt n
  cases k <;> simp only [u8In, Bool.false_eq_true] at h <;> (simp only [IntKind.wrap, IntKind.bits, IntKind.signed]; simp; omega)
theorem evConv_ok [Glob] {nw : Bool} {o : Oper} {src dst : TypeId} {x : Operand} {p : Prop} {s : SV} (ho : o.op = .convert src dst x) (h : evConv P nw src dst (σ.ev x) = some (p, s)) : PureOK P σ o p s := by
  have hd : ∀ {k}, toNum P dst = some k → P.underlying dst = some (.int k) := by
    intro k hk
    unfold toNum at hk
    split at hk
    · cases hk; assumption
    · cases hk
  have hs : hasTy P src = true → ∃ d, P.underlying src = some d := fun h => Option.isSome_iff_exists.1 h
  unfold evConv at h
  cases h2 : hasTy P src with
  | false => rw [h2] at h; cases h
  | true =>
    obtain ⟨d, hd2⟩ := hs h2
    rw [h2] at h
    cases h1 : toNum P dst with
    | none => rw [h1] at h; cases h
    | some k =>
      rw [h1] at h
      simp only [cond_true, Option.bind_some] at h
      have h1 := hd h1
      unfold convTo at h
      split at h
      · rename_i k0 n hx
        cases hk : isU8 k with
        | true =>
          rw [hk] at h
          simp only [cond_true, Option.some.injEq, Prod.mk.injEq] at h
          obtain ⟨rfl, rfl⟩ := h
          have : k = .u8 := by cases k <;> simp [isU8] at hk <;> rfl
          subst this
          exact .u8 fun K w I g tm hi _ => by simp [execOp, ho, hi.ev_i hx, convert, run_underlying hd2, run_underlying h1, Conv.intToInt, u8_wrap]
        | false =>
          rw [hk] at h
          simp only [cond_false, Option.some.injEq] at h
          intro K w I g tm hi hp
          rw [arith_run h hp]
          exact (PureOK.i (p := True) fun K w I g tm hi _ => by simp [execOp, ho, hi.ev_i hx, convert, run_underlying hd2, run_underlying h1, Conv.intToInt]) K w I g tm hi trivial
      · rename_i n hx
        cases hk : isU8 k with
        | true =>
          rw [hk] at h
          simp only [cond_true, Option.some.injEq, Prod.mk.injEq] at h
          obtain ⟨rfl, rfl⟩ := h
          have : k = .u8 := by cases k <;> simp [isU8] at hk <;> rfl
          subst this
          exact .u8 fun K w I g tm hi _ => by
            have := u8_lt n
            simp [execOp, ho, hi.ev_u8 hx, convert, run_underlying hd2, run_underlying h1, Conv.intToInt, u8_wrap]
            rw [toB_nat]; omega
        | false =>
          rw [hk] at h
          simp only [cond_false] at h
          cases hb : u8In k with
          | false => rw [hb] at h; cases h
          | true =>
            rw [hb] at h
            simp only [cond_true, Option.some.injEq, Prod.mk.injEq] at h
            obtain ⟨rfl, rfl⟩ := h
            exact .i fun K w I g tm hi _ => by simp [execOp, ho, hi.ev_u8 hx, convert, run_underlying hd2, run_underlying h1, Conv.intToInt, u8In_wrap hb]
      · cases h
end Go.LX

