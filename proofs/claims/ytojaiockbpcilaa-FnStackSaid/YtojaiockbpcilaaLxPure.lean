/- Operations that only compute: what they leave in their slot. -/
import Derived.Test.YtojaiockbpcilaaLxCode
set_option linter.unusedVariables false
set_option linter.unusedSimpArgs false
namespace Go.LX

variable {P : Program} {σ : St}

theorem OpW_put [Glob] {o : Oper} {t : Nat} {s : SV} {N : St → Prop} (hd : o.dst = some t) (ht : Nat.blt t σ.n = true)
    (h : ∀ (K : Ctx) (w : World) (I : Nat → Prop) (g : Gh) (tm : Array Value), Inv K w I g σ tm → ∃ u, (execOp (Act.eval ⟨tm, []⟩) o).run P w = .ok (.value u) w ∧ ShapeOK s u ∧ ∀ (i : Nat) (c : C), s.cells[i]? = some c → ∃ v, (valCells u)[i]? = some v ∧ CR w I g σ.objs c v)
    (hN : N (σ.put t s)) : OpW P o N σ := by
  intro K w I g tm hi
  obtain ⟨u, h1, h2, h3⟩ := h K w I g tm hi
  rw [h1]
  simp only [Oper.upon, Act.put, hd]
  exact ⟨trivial, _, I, g, hN, hi.put (Nat.le_of_ble_eq_true ht) h2 h3⟩

/-- An operation that only computes. -/
def PureOK [Glob] (P : Program) (σ : St) (o : Oper) (p : Prop) (s : SV) : Prop :=
  ∀ (K : Ctx) (w : World) (I : Nat → Prop) (g : Gh) (tm : Array Value), Inv K w I g σ tm → p →
    ∃ u, (execOp (Act.eval ⟨tm, []⟩) o).run P w = .ok (.value u) w ∧ ShapeOK s u ∧ ∀ (i : Nat) (c : C), s.cells[i]? = some c → ∃ v, (valCells u)[i]? = some v ∧ CR w I g σ.objs c v
theorem shape_one {w : World} {I : Nat → Prop} {g : Gh} {c : C} {u : Value} (h1 : u.oneCell' = true) (h2 : CR w I g σ.objs c u) : ShapeOK (.one c) u ∧ ∀ (i : Nat) (c' : C), (SV.one c).cells[i]? = some c' → ∃ v, (valCells u)[i]? = some v ∧ CR w I g σ.objs c' v := by
  refine ⟨h1, fun i c' hc => ?_⟩
  obtain ⟨rfl, rfl⟩ := one_cell hc
  exact ⟨u, by rw [val_one h1]; rfl, h2⟩
theorem PureOK.one [Glob] {o : Oper} {p : Prop} {c : C} (h : ∀ (K : Ctx) (w : World) (I : Nat → Prop) (g : Gh) (tm : Array Value), Inv K w I g σ tm → p → ∃ u, (execOp (Act.eval ⟨tm, []⟩) o).run P w = .ok (.value u) w ∧ u.oneCell' = true ∧ CR w I g σ.objs c u) : PureOK P σ o p (.one c) := by
  intro K w I g tm hi hp
  obtain ⟨u, h1, h2, h3⟩ := h K w I g tm hi hp
  exact ⟨u, h1, shape_one h2 h3⟩
theorem PureOK.i [Glob] {o : Oper} {p : Prop} {k : IntKind} {n : Int} (h : ∀ (K : Ctx) (w : World) (I : Nat → Prop) (g : Gh) (tm : Array Value), Inv K w I g σ tm → p → (execOp (Act.eval ⟨tm, []⟩) o).run P w = .ok (.value (.int k n)) w) : PureOK P σ o p (.one (.d (.i k) n)) :=
  .one fun K w I g tm hi hp => ⟨_, h K w I g tm hi hp, rfl, rfl⟩
theorem PureOK.bo [Glob] {o : Oper} {p : Prop} {b : Bool} (h : ∀ (K : Ctx) (w : World) (I : Nat → Prop) (g : Gh) (tm : Array Value), Inv K w I g σ tm → p → (execOp (Act.eval ⟨tm, []⟩) o).run P w = .ok (.value (.bool b)) w) : PureOK P σ o p (.one (.d .bo b)) :=
  .one fun K w I g tm hi hp => ⟨_, h K w I g tm hi hp, rfl, rfl⟩
theorem PureOK.u8 [Glob] {o : Oper} {p : Prop} {b : UInt8} (h : ∀ (K : Ctx) (w : World) (I : Nat → Prop) (g : Gh) (tm : Array Value), Inv K w I g σ tm → p → (execOp (Act.eval ⟨tm, []⟩) o).run P w = .ok (.value (.int .u8 (b.toNat : Int))) w) : PureOK P σ o p (.one (.d .u8 b)) :=
  .one fun K w I g tm hi hp => ⟨_, h K w I g tm hi hp, rfl, rfl⟩
theorem PureOK.st [Glob] {o : Oper} {p : Prop} {s : List UInt8} (h : ∀ (K : Ctx) (w : World) (I : Nat → Prop) (g : Gh) (tm : Array Value), Inv K w I g σ tm → p → (execOp (Act.eval ⟨tm, []⟩) o).run P w = .ok (.value (strV s)) w) : PureOK P σ o p (.one (.d .st s)) :=
  .one fun K w I g tm hi hp => ⟨_, h K w I g tm hi hp, rfl, rfl⟩

/-! ### Numbers -/
def toB (n : Int) : UInt8 := UInt8.ofNat (n % 256).toNat
theorem toB_nat (n : Int) : ((toB n).toNat : Int) = n % 256 := by
  unfold toB
  rw [UInt8.toNat_ofNat']
  omega
theorem toB_of {n : Int} (h0 : 0 ≤ n) (h1 : n < 256) : ((toB n).toNat : Int) = n := by rw [toB_nat]; omega
theorem u8_lt (b : UInt8) : (b.toNat : Int) < 256 := by have := b.toNat_lt; omega
/-- Does a number fit? (For the kinds that programs reckon in.) -/
def inR : IntKind → Int → Prop
  | .i64, n => -9223372036854775808 ≤ n ∧ n ≤ 9223372036854775807
  | .i32, n => -2147483648 ≤ n ∧ n ≤ 2147483647
  | .u64, n => 0 ≤ n ∧ n ≤ 18446744073709551615
  | .u32, n => 0 ≤ n ∧ n ≤ 4294967295
  | _, _ => False
theorem inR_wrap {k : IntKind} {n : Int} (h : inR k n) : k.wrap n = n := by
  cases k <;> simp only [inR] at h <;> first | exact h.elim | (simp only [IntKind.wrap, IntKind.bits, IntKind.signed]; simp [Int.bmod]; omega) | skip

/-! ### Data, cell by cell -/
def cellAt : (t : Ty) → t.T → Nat → Option (Σ s : Ty, s.T)
  | .pr a b, x, j => bif Nat.blt j a.w then cellAt a x.1 j else cellAt b x.2 (j - a.w)
  | .un, _, _ => none
  | .i k, x, j => bif Nat.beq j 0 then some ⟨.i k, x⟩ else none
  | .u8, x, j => bif Nat.beq j 0 then some ⟨.u8, x⟩ else none
  | .bo, x, j => bif Nat.beq j 0 then some ⟨.bo, x⟩ else none
  | .st, x, j => bif Nat.beq j 0 then some ⟨.st, x⟩ else none
  | .sl e, x, j => bif Nat.beq j 0 then some ⟨.sl e, x⟩ else none
/-- The cells of a datum that is read. -/
def cellsOf : (t : Ty) → t.T → List C
  | .pr a b, x => cellsOf a x.1 ++ cellsOf b x.2
  | .un, _ => []
  | .i k, x => [.d (.i k) x]
  | .u8, x => [.d .u8 x]
  | .bo, x => [.d .bo x]
  | .st, x => [.d .st x]
  | .sl e, x => [.d (.sl e) x]
/-- The same, inside object o. -/
def cellsV (o : Nat) : (t : Ty) → t.T → List C
  | .pr a b, x => cellsV o a x.1 ++ cellsV o b x.2
  | .un, _ => []
  | .i k, x => [.d (.i k) x]
  | .u8, x => [.d .u8 x]
  | .bo, x => [.d .bo x]
  | .st, x => [.d .st x]
  | .sl e, x => [.rf o (.vw (.sl e) x)]
/-- The same, of row i of object o, from cell j on. -/
def cellsN (o i : Nat) : (t : Ty) → t.T → Nat → List C
  | .pr a b, x, j => cellsN o i a x.1 j ++ cellsN o i b x.2 (j + a.w)
  | .un, _, _ => []
  | .i k, x, _ => [.d (.i k) x]
  | .u8, x, _ => [.d .u8 x]
  | .bo, x, _ => [.d .bo x]
  | .st, x, _ => [.d .st x]
  | .sl e, x, j => [.rf o (.ns i j)]
theorem cellsOf_len : ∀ {t : Ty} {x : t.T}, (cellsOf t x).length = t.w
  | .pr a b, x => by rw [cellsOf, List.length_append, cellsOf_len, cellsOf_len]; rfl
  | .un, _ => rfl
  | .i _, _ => rfl
  | .u8, _ => rfl
  | .bo, _ => rfl
  | .st, _ => rfl
  | .sl _, _ => rfl
theorem cellsV_len {o : Nat} : ∀ {t : Ty} {x : t.T}, (cellsV o t x).length = t.w
  | .pr a b, x => by rw [cellsV, List.length_append, cellsV_len, cellsV_len]; rfl
  | .un, _ => rfl
  | .i _, _ => rfl
  | .u8, _ => rfl
  | .bo, _ => rfl
  | .st, _ => rfl
  | .sl _, _ => rfl
theorem cellsN_len {o i : Nat} : ∀ {t : Ty} {x : t.T} {j : Nat}, (cellsN o i t x j).length = t.w
  | .pr a b, x, j => by rw [cellsN, List.length_append, cellsN_len, cellsN_len]; rfl
  | .un, _, _ => rfl
  | .i _, _, _ => rfl
  | .u8, _, _ => rfl
  | .bo, _, _ => rfl
  | .st, _, _ => rfl
  | .sl _, _, _ => rfl
theorem get_single {α : Type} {a b : α} {j : Nat} (h : [a][j]? = some b) : j = 0 ∧ b = a := by
  cases j with
  | zero => simp at h; exact ⟨rfl, h.symm⟩
  | succ j => simp at h
theorem get_app {α β : Type} {as bs : List α} {us vs : List β} {R : α → β → Prop} (hl : as.length = us.length) (h1 : ∀ (j : Nat) (a : α), as[j]? = some a → ∃ u, us[j]? = some u ∧ R a u) (h2 : ∀ (j : Nat) (a : α), bs[j]? = some a → ∃ u, vs[j]? = some u ∧ R a u) :
    ∀ (j : Nat) (a : α), (as ++ bs)[j]? = some a → ∃ u, (us ++ vs)[j]? = some u ∧ R a u := by
  intro j a hj
  rw [List.getElem?_append] at hj ⊢
  rw [← hl]
  split at hj
  · rename_i h; rw [if_pos h]; exact h1 j a hj
  · rename_i h; rw [if_neg h]; exact h2 _ a hj
theorem RT.cells {w : World} {I : Nat → Prop} {g : Gh} {ob : Nat → Option Ob} : ∀ {t : Ty} {x : t.T} {us : List Value}, RT w I t x us → ∀ (j : Nat) (c : C), (cellsOf t x)[j]? = some c → ∃ u, us[j]? = some u ∧ CR w I g ob c u
  | .pr a b, x, us, h => by
    obtain ⟨u1, u2, rfl, h1, h2⟩ := h
    exact get_app (by rw [cellsOf_len, h1.len]) (RT.cells h1) (RT.cells h2)
  | .un, _, _, h => fun j c hj => by simp [cellsOf] at hj
  | .i _, _, _, h => fun j c hj => by obtain ⟨rfl, rfl⟩ := get_single hj; subst h; exact ⟨_, rfl, rfl⟩
  | .u8, _, _, h => fun j c hj => by obtain ⟨rfl, rfl⟩ := get_single hj; subst h; exact ⟨_, rfl, rfl⟩
  | .bo, _, _, h => fun j c hj => by obtain ⟨rfl, rfl⟩ := get_single hj; subst h; exact ⟨_, rfl, rfl⟩
  | .st, _, _, h => fun j c hj => by obtain ⟨rfl, rfl⟩ := get_single hj; subst h; exact ⟨_, rfl, rfl⟩
  | .sl _, _, _, h => fun j c hj => by
    obtain ⟨rfl, rfl⟩ := get_single hj
    have h' := h
    obtain ⟨A, cap, rfl, _⟩ := h
    exact ⟨_, rfl, h'⟩
theorem RT.cellsV {w : World} {I : Nat → Prop} {g : Gh} {ob : Nat → Option Ob} {o : Nat} {e : TypeId} {t0 : Ty} {xs : List t0.T} (ho : ob o = some (.rows e t0 true xs)) : ∀ {t : Ty} {x : t.T} {us : List Value}, RT w (fun b => I b ∨ (b ∈ g.L o ∧ (g.base o).ownBlock ≠ some b)) t x us → ∀ (j : Nat) (c : C), (cellsV o t x)[j]? = some c → ∃ u, us[j]? = some u ∧ CR w I g ob c u
  | .pr a b, x, us, h => by
    obtain ⟨u1, u2, rfl, h1, h2⟩ := h
    exact get_app (by rw [cellsV_len, h1.len]) (RT.cellsV ho h1) (RT.cellsV ho h2)
  | .un, _, _, h => fun j c hj => by simp [LX.cellsV] at hj
  | .i _, _, _, h => fun j c hj => by obtain ⟨rfl, rfl⟩ := get_single hj; subst h; exact ⟨_, rfl, rfl⟩
  | .u8, _, _, h => fun j c hj => by obtain ⟨rfl, rfl⟩ := get_single hj; subst h; exact ⟨_, rfl, rfl⟩
  | .bo, _, _, h => fun j c hj => by obtain ⟨rfl, rfl⟩ := get_single hj; subst h; exact ⟨_, rfl, rfl⟩
  | .st, _, _, h => fun j c hj => by obtain ⟨rfl, rfl⟩ := get_single hj; subst h; exact ⟨_, rfl, rfl⟩
  | .sl _, _, _, h => fun j c hj => by
    obtain ⟨rfl, rfl⟩ := get_single hj
    have h' := h
    obtain ⟨A, cap, rfl, _⟩ := h
    refine ⟨_, rfl, ?_⟩
    show seeO _ _ _ _ _ (ob o) _ _
    rw [ho]
    exact h'
theorem slAt_app {a b : Ty} {j : Nat} : (slAt a j = true → slAt (.pr a b) j = true) ∧ (slAt b j = true → slAt (.pr a b) (a.w + j) = true) := by
  have hlt : ∀ {t : Ty} {j : Nat}, slAt t j = true → j < t.w := by
    intro t
    induction t with
    | pr a b iha ihb =>
      intro j h
      unfold slAt at h
      cases hb : Nat.blt j a.w with
      | true => have := Nat.le_of_ble_eq_true hb; simp only [Ty.w]; omega
      | false =>
        rw [hb] at h
        simp only [cond_false] at h
        have := ihb h
        simp only [Ty.w]; omega
    | sl e => intro j h; simp [slAt] at h; subst h; exact Nat.one_pos
    | _ => intro j h; simp [slAt] at h
  constructor
  · intro h
    have := hlt h
    unfold slAt
    rw [show Nat.blt j a.w = true from Nat.ble_eq_true_of_le this]
    exact h
  · intro h
    unfold slAt
    rw [show Nat.blt (a.w + j) a.w = false from by
      cases hb : Nat.blt (a.w + j) a.w with
      | false => rfl
      | true => have := Nat.le_of_ble_eq_true hb; omega]
    simp only [cond_false, Nat.add_sub_cancel_left]
    exact h
theorem OT.cellsN {w : World} {I : Nat → Prop} {g : Gh} {ob : Nat → Option Ob} {o i : Nat} : ∀ {t : Ty} {x : t.T} {us : List Value} {L : List Nat} {j0 : Nat}, OT w t x us L → (∀ j u, us[j]? = some u → slAt t j = true → seeO w I (g.addr o) (g.base o) (g.L o) (ob o) (.ns i (j0 + j)) u) →
    ∀ (j : Nat) (c : C), (cellsN o i t x j0)[j]? = some c → ∃ u, us[j]? = some u ∧ CR w I g ob c u
  | .pr a b, x, us, L, j0, h, hs => by
    obtain ⟨u1, u2, L1, L2, rfl, rfl, h1, h2⟩ := h
    refine get_app (by rw [cellsN_len, h1.len]) (OT.cellsN h1 fun j u hu hsl => hs j u ?_ (slAt_app.1 hsl)) (OT.cellsN h2 fun j u hu hsl => ?_)
    · rw [List.getElem?_append_left (List.getElem?_eq_some_iff.1 hu).1]; exact hu
    · rw [Nat.add_assoc]
      refine hs (a.w + j) u ?_ (slAt_app.2 hsl)
      rw [List.getElem?_append_right (by rw [h1.len]; omega), h1.len, Nat.add_sub_cancel_left]; exact hu
  | .un, _, _, _, _, h, _ => fun j c hj => by simp [LX.cellsN] at hj
  | .i _, _, _, _, _, h, _ => fun j c hj => by obtain ⟨rfl, rfl⟩ := get_single hj; obtain ⟨rfl, _⟩ := h; exact ⟨_, rfl, rfl⟩
  | .u8, _, _, _, _, h, _ => fun j c hj => by obtain ⟨rfl, rfl⟩ := get_single hj; obtain ⟨rfl, _⟩ := h; exact ⟨_, rfl, rfl⟩
  | .bo, _, _, _, _, h, _ => fun j c hj => by obtain ⟨rfl, rfl⟩ := get_single hj; obtain ⟨rfl, _⟩ := h; exact ⟨_, rfl, rfl⟩
  | .st, _, _, _, _, h, _ => fun j c hj => by obtain ⟨rfl, rfl⟩ := get_single hj; obtain ⟨rfl, _⟩ := h; exact ⟨_, rfl, rfl⟩
  | .sl _, _, _, _, _, h, hs => fun j c hj => by
    obtain ⟨rfl, rfl⟩ := get_single hj
    obtain ⟨u, _, _, _, rfl, _⟩ := h
    exact ⟨u, rfl, hs 0 u rfl rfl⟩

/-- What a slice cell reads as. -/
def slC (ob : Nat → Option Ob) : C → Option (Σ e : Ty, List e.T)
  | .d (.sl e) xs => some ⟨e, xs⟩
  | .rf o .ar => match ob o with
    | some (.rows _ t _ xs) => some ⟨t, xs⟩
    | some (.fz t _ xs) => some ⟨t, xs⟩
    | _ => none
  | .rf o (.sb off len) => match ob o with
    | some (.rows _ t _ xs) => some ⟨t, (xs.drop off).take len⟩
    | some (.fz t _ xs) => some ⟨t, (xs.drop off).take len⟩
    | _ => none
  | .rf o (.vw (.sl e) xs) => match ob o with
    | some (.rows _ _ true _) => some ⟨e, xs⟩
    | some (.fz _ true _) => some ⟨e, xs⟩
    | _ => none
  | .rf o (.ns i j) => match ob o with
    | some (.rows _ t true xs) => match cellAt t (xs.getD i (dflt t)) j with
      | some ⟨.sl e, ys⟩ => some ⟨e, ys⟩
      | _ => none
    | _ => none
  | _ => none
def C.oid : C → Nat
  | .rf o _ => o
  | _ => 0
theorem RT.sub_of {w : World} {S : Nat → Prop} {t : Ty} {xs : List t.T} {base u : Value} {off len : Nat} (h : RT w S (.sl t) xs [base]) (hs : SubOf base t.w xs.length off len u) : RT w S (.sl t) ((xs.drop off).take len) [u] := by
  obtain ⟨A, cap, hb, h1, h2, h3⟩ := h
  obtain ⟨A', cap', B, c, e1, rfl, e2, e3, e4, e5⟩ := hs
  have hl : ((xs.drop off).take len).length = len := by simp; omega
  simp only [List.cons.injEq, and_true] at hb
  rw [e1] at hb
  simp only [Value.slice.injEq] at hb
  obtain ⟨rfl, _, rfl⟩ := hb
  refine ⟨B, c, by rw [hl], by rw [hl]; exact e3, e4, fun i x hx => ?_⟩
  have hi : i < len := by have := (List.getElem?_eq_some_iff.1 hx).1; omega
  rw [List.getElem?_take, if_pos hi, List.getElem?_drop] at hx
  obtain ⟨b, f, rfl, rfl⟩ := e5 (by omega)
  obtain ⟨b', o', vs, hA, hc, hr⟩ := h3 _ x hx
  cases hA
  refine ⟨b, f + off * t.w, vs, rfl, ⟨hc.1, fun j u hu => ?_⟩, hr⟩
  have := hc.2 j u hu
  rw [Nat.add_mul, ← Nat.add_assoc] at this
  exact this
theorem RT.cell {w : World} {S : Nat → Prop} : ∀ {t : Ty} {x : t.T} {us : List Value}, RT w S t x us → ∀ {j : Nat} {s : Ty} {y : s.T}, cellAt t x j = some ⟨s, y⟩ → ∃ u, us[j]? = some u ∧ RT w S s y [u]
  | .pr a b, x, us, h, j, s, y, hc => by
    obtain ⟨u1, u2, rfl, h1, h2⟩ := h
    unfold cellAt at hc
    cases hb : Nat.blt j a.w with
    | true =>
      rw [hb] at hc
      obtain ⟨u, hu, hr⟩ := RT.cell h1 hc
      exact ⟨u, by rw [List.getElem?_append_left (List.getElem?_eq_some_iff.1 hu).1]; exact hu, hr⟩
    | false =>
      rw [hb] at hc
      obtain ⟨u, hu, hr⟩ := RT.cell h2 hc
      have : ¬ j < a.w := fun h => by rw [show Nat.blt j a.w = true from Nat.ble_eq_true_of_le h] at hb; cases hb
      exact ⟨u, by rw [List.getElem?_append_right (by rw [h1.len]; omega), h1.len]; exact hu, hr⟩
  | .un, _, _, _, _, _, _, hc => by simp [cellAt] at hc
  | .i _, _, _, h, j, _, _, hc => by
    cases j with
    | zero => simp [cellAt] at hc; obtain ⟨rfl, hc⟩ := hc; cases hc; subst h; exact ⟨_, rfl, rfl⟩
    | succ j => cases (show (none : Option (Σ s : Ty, s.T)) = some _ from hc)
  | .u8, _, _, h, j, _, _, hc => by
    cases j with
    | zero => simp [cellAt] at hc; obtain ⟨rfl, hc⟩ := hc; cases hc; subst h; exact ⟨_, rfl, rfl⟩
    | succ j => cases (show (none : Option (Σ s : Ty, s.T)) = some _ from hc)
  | .bo, _, _, h, j, _, _, hc => by
    cases j with
    | zero => simp [cellAt] at hc; obtain ⟨rfl, hc⟩ := hc; cases hc; subst h; exact ⟨_, rfl, rfl⟩
    | succ j => cases (show (none : Option (Σ s : Ty, s.T)) = some _ from hc)
  | .st, _, _, h, j, _, _, hc => by
    cases j with
    | zero => simp [cellAt] at hc; obtain ⟨rfl, hc⟩ := hc; cases hc; subst h; exact ⟨_, rfl, rfl⟩
    | succ j => cases (show (none : Option (Σ s : Ty, s.T)) = some _ from hc)
  | .sl _, _, _, h, j, _, _, hc => by
    cases j with
    | zero =>
      simp [cellAt] at hc
      obtain ⟨rfl, hc⟩ := hc
      cases hc
      have h' := h
      obtain ⟨A, cap, rfl, _⟩ := h
      exact ⟨_, rfl, h'⟩
    | succ j => cases (show (none : Option (Σ s : Ty, s.T)) = some _ from hc)
theorem CR.slC [Glob] {K : Ctx} {w : World} {I : Nat → Prop} {g : Gh} {tm : Array Value} (hi : Inv K w I g σ tm) {c : C} {u : Value} {e : Ty} {xs : List e.T} (h : CR w I g σ.objs c u) (hc : slC σ.objs c = some ⟨e, xs⟩) : RT w (fun b => I b ∨ b ∈ g.L c.oid) (.sl e) xs [u] := by
  have base : ∀ {o : Nat} {q : Ob}, σ.objs o = some q → (∀ {e t dp xs}, q = .rows e t dp xs → RT w (fun b => I b ∨ b ∈ g.L o) (.sl t) xs [g.base o]) ∧ (∀ {t dp xs}, q = .fz t dp xs → RT w (fun b => I b ∨ b ∈ g.L o) (.sl t) xs [g.base o]) := by
    intro o q hq
    have hob := hi.obj o
    unfold ObR at hob
    rw [hq] at hob
    exact ⟨fun e => by subst e; exact hob.rt, fun e => by subst e; exact hob.2.sub fun b hb => .inl hb⟩
  unfold LX.slC at hc
  split at hc
  · simp only [Option.some.injEq, Sigma.mk.injEq] at hc
    obtain ⟨rfl, hc⟩ := hc
    cases hc
    exact RT.sub h fun b hb => .inl hb
  · rename_i o
    have h' : seeO w I (g.addr o) (g.base o) (g.L o) (σ.objs o) .ar u := h
    split at hc
    · rename_i hq
      rw [hq] at h'
      cases hc
      have : u = g.base o := h'
      subst this
      exact (base hq).1 rfl
    · rename_i hq
      rw [hq] at h'
      cases hc
      have : u = g.base o := h'
      subst this
      exact (base hq).2 rfl
    · cases hc
  · rename_i o off len
    have h' : seeO w I (g.addr o) (g.base o) (g.L o) (σ.objs o) (.sb off len) u := h
    split at hc
    · rename_i hq
      rw [hq] at h'
      cases hc
      exact ((base hq).1 rfl).sub_of h'
    · rename_i hq
      rw [hq] at h'
      cases hc
      exact ((base hq).2 rfl).sub_of h'
    · cases hc
  · rename_i o e' xs'
    have h' : seeO w I (g.addr o) (g.base o) (g.L o) (σ.objs o) (.vw (.sl e') xs') u := h
    split at hc
    · rename_i hq
      rw [hq] at h'
      cases hc
      exact RT.sub h' fun b hb => hb.imp id fun hb => hb.1
    · rename_i hq
      rw [hq] at h'
      cases hc
      exact RT.sub h' fun b hb => .inl hb
    · cases hc
  · rename_i o i j
    have h' : seeO w I (g.addr o) (g.base o) (g.L o) (σ.objs o) (.ns i j) u := h
    split at hc
    · rename_i hq
      rw [hq] at h'
      obtain ⟨_, b, f, cap, h1, h2, h3⟩ := h'
      have hr := (base hq).1 rfl
      split at hc
      · rename_i e' ys hce
        cases hc
        rw [show _ = _ from List.getD_eq_getElem?_getD, List.getElem?_eq_getElem h2] at hce
        obtain ⟨A, c0, e1, _, _, e4⟩ := hr
        obtain ⟨b', o', vs, rfl, hca, hrow⟩ := e4 i _ (List.getElem?_eq_getElem h2)
        rw [h1] at e1
        simp at e1
        obtain ⟨⟨rfl, rfl⟩, _⟩ := e1
        obtain ⟨v, hv, hrv⟩ := RT.cell hrow hce
        have := hca.2 j v hv
        rw [h3] at this
        cases this
        exact hrv
      · cases hc
    · cases hc
  · cases hc
end Go.LX
