/- Typed plain data and how memory holds it: what can be read (RT), what is owned (OT, OA). -/
import Derived.Calls
import Derived.Laws.AppendOwn
import Derived.Below
set_option linter.unusedVariables false
set_option linter.unusedSimpArgs false
namespace Go.LX

inductive Ty where
  | i (k : IntKind) | u8 | bo | st | sl (e : Ty) | un | pr (a b : Ty)
  deriving DecidableEq, Inhabited

@[reducible] def Ty.T : Ty → Type
  | .i _ => Int | .u8 => UInt8 | .bo => Bool | .st => List UInt8 | .sl e => List e.T | .un => Unit | .pr a b => a.T × b.T

/-- How many cells. -/
def Ty.w : Ty → Nat
  | .pr a b => a.w + b.w
  | .un => 0
  | _ => 1
/-- Nothing of it lies in memory. -/
def Ty.flat : Ty → Bool
  | .pr a b => a.flat && b.flat
  | .sl _ => false
  | _ => true
def Ty.one : Ty → Bool
  | .pr _ _ | .un => false
  | _ => true
def dflt : (t : Ty) → t.T
  | .i _ => (0 : Int) | .u8 => (0 : UInt8) | .bo => false | .st => ([] : List UInt8) | .sl e => ([] : List e.T) | .un => () | .pr a b => (dflt a, dflt b)

/-- The cells vs stand at offset o of a block of S. -/
def CellsAt (w : World) (S : Nat → Prop) (b o : Nat) (vs : List Value) : Prop := S b ∧ ∀ j u, vs[j]? = some u → w.cell? ⟨b, o + j, none⟩ = some u

def strV (s : List UInt8) : Value := .string ⟨s.toArray⟩

/-- The cells us read as x, all of it in blocks of S. -/
def RT (w : World) (S : Nat → Prop) : (t : Ty) → t.T → List Value → Prop
  | .i k, n, us => us = [.int k n]
  | .u8, b, us => us = [.int .u8 (b.toNat : Int)]
  | .bo, b, us => us = [.bool b]
  | .st, s, us => us = [strV s]
  | .sl e, xs, us => ∃ A cap, us = [.slice A (List.length (α := e.T) xs) cap] ∧ List.length (α := e.T) xs ≤ cap ∧ cap ≤ maxLen ∧
      ∀ (i : Nat) (x : e.T), (xs : List e.T)[i]? = some x → ∃ b o vs, A = some ⟨b, o, none⟩ ∧ CellsAt w S b (o + i * e.w) vs ∧ RT w S e x vs
  | .un, _, us => us = []
  | .pr a b, x, us => ∃ us1 us2, us = us1 ++ us2 ∧ RT w S a x.1 us1 ∧ RT w S b x.2 us2

theorem RT.len {w : World} {S : Nat → Prop} : ∀ {t : Ty} {x : t.T} {us : List Value}, RT w S t x us → us.length = t.w
  | .i _, _, _, h => by subst h; rfl
  | .u8, _, _, h => by subst h; rfl
  | .bo, _, _, h => by subst h; rfl
  | .st, _, _, h => by subst h; rfl
  | .sl _, _, _, h => by obtain ⟨_, _, rfl, _⟩ := h; rfl
  | .un, _, _, h => by subst h; rfl
  | .pr a b, _, _, h => by obtain ⟨u1, u2, rfl, h1, h2⟩ := h; rw [List.length_append, h1.len, h2.len]; rfl
theorem RT.one {w : World} {S : Nat → Prop} : ∀ {t : Ty} {x : t.T} {us : List Value}, RT w S t x us → ∀ u ∈ us, u.oneCell' = true
  | .i _, _, _, h, u, hu => by subst h; simp at hu; subst hu; rfl
  | .u8, _, _, h, u, hu => by subst h; simp at hu; subst hu; rfl
  | .bo, _, _, h, u, hu => by subst h; simp at hu; subst hu; rfl
  | .st, _, _, h, u, hu => by subst h; simp at hu; subst hu; rfl
  | .sl _, _, _, h, u, hu => by obtain ⟨_, _, rfl, _⟩ := h; simp at hu; subst hu; rfl
  | .un, _, _, h, u, hu => by subst h; simp at hu
  | .pr a b, _, _, h, u, hu => by
    obtain ⟨u1, u2, rfl, h1, h2⟩ := h
    rcases List.mem_append.1 hu with hu | hu
    · exact h1.one u hu
    · exact h2.one u hu
/-- What is read stays read where its blocks stay. -/
theorem RT.kept {w w' : World} {S S' : Nat → Prop} (hS : ∀ b, S b → S' b) (hw : ∀ b, S b → ∀ o, w'.cell? ⟨b, o, none⟩ = w.cell? ⟨b, o, none⟩) : ∀ {t : Ty} {x : t.T} {us : List Value}, RT w S t x us → RT w' S' t x us
  | .i _, _, _, h => h
  | .u8, _, _, h => h
  | .bo, _, _, h => h
  | .st, _, _, h => h
  | .un, _, _, h => h
  | .sl _, _, _, h => by
    obtain ⟨A, cap, rfl, h1, h2, h3⟩ := h
    refine ⟨A, cap, rfl, h1, h2, fun i x hx => ?_⟩
    obtain ⟨b, o, vs, hA, hc, hr⟩ := h3 i x hx
    exact ⟨b, o, vs, hA, ⟨hS _ hc.1, fun j u hu => (hw _ hc.1 _).trans (hc.2 j u hu)⟩, RT.kept hS hw hr⟩
  | .pr a b, _, _, h => by
    obtain ⟨u1, u2, rfl, h1, h2⟩ := h
    exact ⟨u1, u2, rfl, RT.kept hS hw h1, RT.kept hS hw h2⟩
theorem RT.sub {w : World} {S S' : Nat → Prop} {t : Ty} {x : t.T} {us : List Value} (h : RT w S t x us) (hS : ∀ b, S b → S' b) : RT w S' t x us := h.kept hS fun _ _ _ => rfl
/-- Flat data reads alike everywhere. -/
theorem RT.free {w w' : World} {S S' : Nat → Prop} : ∀ {t : Ty} {x : t.T} {us : List Value}, t.flat = true → RT w S t x us → RT w' S' t x us
  | .i _, _, _, _, h => h
  | .u8, _, _, _, h => h
  | .bo, _, _, _, h => h
  | .st, _, _, _, h => h
  | .un, _, _, _, h => h
  | .sl _, _, _, hf, _ => by simp [Ty.flat] at hf
  | .pr a b, _, _, hf, h => by
    obtain ⟨f1, f2⟩ := Bool.and_eq_true_iff.1 hf
    obtain ⟨u1, u2, rfl, h1, h2⟩ := h
    exact ⟨u1, u2, rfl, RT.free f1 h1, RT.free f2 h2⟩

/-! ### Rows -/
/-- Each x by its own cells, one behind the other; the blocks of all. -/
def Rows {α : Type} (R : α → List Value → List Nat → Prop) : List α → List Value → List Nat → Prop
  | [], us, L => us = [] ∧ L = []
  | x :: xs, us, L => ∃ u1 u2 L1 L2, us = u1 ++ u2 ∧ L = L1 ++ L2 ∧ R x u1 L1 ∧ Rows R xs u2 L2

section
variable {α : Type} {R R' : α → List Value → List Nat → Prop}
theorem Rows.mono : ∀ {xs : List α} {us : List Value} {L : List Nat}, Rows R xs us L → (∀ x u L1, x ∈ xs → (∀ b ∈ L1, b ∈ L) → R x u L1 → R' x u L1) → Rows R' xs us L
  | [], _, _, h, _ => h
  | x :: xs, _, _, h, hR => by
    obtain ⟨u1, u2, L1, L2, rfl, rfl, h1, h2⟩ := h
    exact ⟨u1, u2, L1, L2, rfl, rfl, hR x u1 L1 (by simp) (fun b hb => by simp [hb]) h1, h2.mono fun x u L hx hL h => hR x u L (by simp [hx]) (fun b hb => by simp [hL b hb]) h⟩
theorem Rows.append : ∀ {xs ys : List α} {us vs : List Value} {L M : List Nat}, Rows R xs us L → Rows R ys vs M → Rows R (xs ++ ys) (us ++ vs) (L ++ M)
  | [], _, _, _, _, _, h, h' => by obtain ⟨rfl, rfl⟩ := h; exact h'
  | x :: xs, _, _, _, _, _, h, h' => by
    obtain ⟨u1, u2, L1, L2, rfl, rfl, h1, h2⟩ := h
    exact ⟨u1, u2 ++ _, L1, L2 ++ _, List.append_assoc .., List.append_assoc .., h1, h2.append h'⟩
theorem Rows.split : ∀ {xs ys : List α} {us : List Value} {L : List Nat}, Rows R (xs ++ ys) us L → ∃ u1 u2 L1 L2, us = u1 ++ u2 ∧ L = L1 ++ L2 ∧ Rows R xs u1 L1 ∧ Rows R ys u2 L2
  | [], _, us, L, h => ⟨[], us, [], L, rfl, rfl, ⟨rfl, rfl⟩, h⟩
  | x :: xs, _, _, _, h => by
    obtain ⟨u1, u2, L1, L2, rfl, rfl, h1, h2⟩ := h
    obtain ⟨v1, v2, M1, M2, rfl, rfl, h3, h4⟩ := Rows.split h2
    exact ⟨u1 ++ v1, v2, L1 ++ M1, M2, (List.append_assoc ..).symm, (List.append_assoc ..).symm, ⟨u1, v1, L1, M1, rfl, rfl, h1, h3⟩, h4⟩
theorem Rows.single {x : α} {us : List Value} {L : List Nat} : Rows R [x] us L ↔ R x us L := by
  constructor
  · rintro ⟨u1, u2, L1, L2, rfl, rfl, h1, rfl, rfl⟩; simpa using h1
  · exact fun h => ⟨us, [], L, [], by simp, by simp, h, rfl, rfl⟩
theorem Rows.len {k : Nat} (hk : ∀ x u L, R x u L → u.length = k) : ∀ {xs : List α} {us : List Value} {L : List Nat}, Rows R xs us L → us.length = xs.length * k
  | [], _, _, h => by obtain ⟨rfl, _⟩ := h; simp
  | x :: xs, _, _, h => by
    obtain ⟨u1, u2, L1, L2, rfl, rfl, h1, h2⟩ := h
    rw [List.length_append, hk _ _ _ h1, h2.len hk, List.length_cons, Nat.add_mul]; omega
/-- Row i, cut out. -/
theorem Rows.at {k : Nat} (hk : ∀ x u L, R x u L → u.length = k) {xs : List α} {us : List Value} {L : List Nat} (h : Rows R xs us L) {i : Nat} {x : α} (hx : xs[i]? = some x) :
    ∃ u1 u u2 L1 L0 L2, us = u1 ++ u ++ u2 ∧ L = L1 ++ L0 ++ L2 ∧ u1.length = i * k ∧ u.length = k ∧ Rows R (xs.take i) u1 L1 ∧ R x u L0 ∧ Rows R (xs.drop (i + 1)) u2 L2 := by
  have hi := (List.getElem?_eq_some_iff.1 hx).1
  have hx' : xs[i] = x := (List.getElem?_eq_some_iff.1 hx).2
  have e : xs = xs.take i ++ (x :: xs.drop (i + 1)) := by rw [← hx', ← List.drop_eq_getElem_cons hi, List.take_append_drop]
  rw [e] at h
  obtain ⟨u1, u2, L1, L2, rfl, rfl, h1, h2⟩ := h.split
  obtain ⟨v1, v2, M1, M2, rfl, rfl, h3, h4⟩ := h2
  refine ⟨u1, v1, v2, L1, M1, M2, (List.append_assoc ..).symm, (List.append_assoc ..).symm, ?_, hk _ _ _ h3, h1, h3, h4⟩
  rw [h1.len hk, List.length_take]; congr 1; omega
/-- Row i, told anew. -/
theorem Rows.set {k : Nat} (hk : ∀ x u L, R x u L → u.length = k) {xs : List α} {us : List Value} {L : List Nat} (h : Rows R xs us L) {i : Nat} {x y : α} (hx : xs[i]? = some x) :
    ∃ u1 u u2 L1 L0 L2, us = u1 ++ u ++ u2 ∧ L = L1 ++ L0 ++ L2 ∧ u1.length = i * k ∧ u.length = k ∧ R x u L0 ∧ ∀ v M, R y v M → Rows R (xs.set i y) (u1 ++ v ++ u2) (L1 ++ M ++ L2) := by
  obtain ⟨u1, u, u2, L1, L0, L2, e1, e2, e3, e4, h1, h2, h3⟩ := h.at hk hx
  refine ⟨u1, u, u2, L1, L0, L2, e1, e2, e3, e4, h2, fun v M hv => ?_⟩
  have hi := (List.getElem?_eq_some_iff.1 hx).1
  rw [List.set_eq_take_append_cons_drop, if_pos hi, List.append_assoc, List.append_assoc]
  exact h1.append (⟨v, u2, M, L2, rfl, rfl, hv, h3⟩ : Rows R (y :: xs.drop (i + 1)) _ _)
end

/-! ### Owned -/
/-- The cells us hold x, and the blocks L, each once, hold all that x has in memory. -/
def OT (w : World) : (t : Ty) → t.T → List Value → List Nat → Prop
  | .i k, n, us, L => us = [.int k n] ∧ L = []
  | .u8, b, us, L => us = [.int .u8 (b.toNat : Int)] ∧ L = []
  | .bo, b, us, L => us = [.bool b] ∧ L = []
  | .st, s, us, L => us = [strV s] ∧ L = []
  | .sl e, xs, us, L => ∃ u eid vs L', us = [u] ∧ w.ownsRow 0 eid e.w u (List.length (α := e.T) xs) vs ∧ Rows (OT w e) xs vs L' ∧ L = u.ownBlock.toList ++ L'
  | .un, _, us, L => us = [] ∧ L = []
  | .pr a b, x, us, L => ∃ us1 us2 L1 L2, us = us1 ++ us2 ∧ L = L1 ++ L2 ∧ OT w a x.1 us1 L1 ∧ OT w b x.2 us2 L2

/-- A row: owned down to the ground (dp), or at its own cells alone. -/
def RR (w : World) (I : Nat → Prop) (dp : Bool) (t : Ty) (x : t.T) (us : List Value) (L : List Nat) : Prop := bif dp then OT w t x us L else L = [] ∧ RT w I t x us
/-- An owned slice. -/
def OA (w : World) (I : Nat → Prop) (dp : Bool) (eid : TypeId) (t : Ty) (xs : List t.T) (u : Value) (L : List Nat) : Prop :=
  ∃ vs L', w.ownsRow 0 eid t.w u xs.length vs ∧ Rows (RR w I dp t) xs vs L' ∧ L = u.ownBlock.toList ++ L'

theorem OT.len {w : World} : ∀ {t : Ty} {x : t.T} {us : List Value} {L : List Nat}, OT w t x us L → us.length = t.w
  | .i _, _, _, _, h => by rw [h.1]; rfl
  | .u8, _, _, _, h => by rw [h.1]; rfl
  | .bo, _, _, _, h => by rw [h.1]; rfl
  | .st, _, _, _, h => by rw [h.1]; rfl
  | .sl _, _, _, _, h => by obtain ⟨_, _, _, _, rfl, _⟩ := h; rfl
  | .un, _, _, _, h => by rw [h.1]; rfl
  | .pr a b, _, _, _, h => by obtain ⟨u1, u2, L1, L2, rfl, rfl, h1, h2⟩ := h; rw [List.length_append, h1.len, h2.len]; rfl
theorem RR.len {w : World} {I : Nat → Prop} {dp : Bool} {t : Ty} {x : t.T} {us : List Value} {L : List Nat} (h : RR w I dp t x us L) : us.length = t.w := by
  cases dp with
  | true => exact OT.len h
  | false => exact h.2.len

theorem ownsRow_block {w w' : World} {base : Nat} {e : TypeId} {size : Nat} {v : Value} {n : Nat} {xs : List Value} (h : w.ownsRow base e size v n xs) (hw : ∀ b, v.ownBlock = some b → w'.heap[b]? = w.heap[b]?) : w'.ownsRow base e size v n xs := by
  refine ⟨h.1, ?_⟩
  rcases h.2 with hn | ⟨g, cap, cur, rfl, hb, hg, rest⟩
  · exact .inl hn
  · exact .inr ⟨g, cap, cur, rfl, hb, by rw [hw g rfl]; exact hg, rest⟩
theorem cell_block {w w' : World} {b : Nat} (h : w'.heap[b]? = w.heap[b]?) (o : Nat) : w'.cell? ⟨b, o, none⟩ = w.cell? ⟨b, o, none⟩ := World.cell?_of_block (a := ⟨b, o, none⟩) h
theorem frozen_block {w w' : World} {b : Nat} (h : w'.heap[b]? = w.heap[b]?) (o : Nat) : w'.frozen? ⟨b, o, none⟩ = w.frozen? ⟨b, o, none⟩ := World.frozen?_of_block (a := ⟨b, o, none⟩) h

theorem OT.kept {w w' : World} : ∀ {t : Ty} {x : t.T} {us : List Value} {L : List Nat}, (∀ b ∈ L, w'.heap[b]? = w.heap[b]?) → OT w t x us L → OT w' t x us L
  | .i _, _, _, _, _, h => h
  | .u8, _, _, _, _, h => h
  | .bo, _, _, _, _, h => h
  | .st, _, _, _, _, h => h
  | .un, _, _, _, _, h => h
  | .sl _, _, _, _, hL, h => by
    obtain ⟨u, eid, vs, L', rfl, ho, hr, rfl⟩ := h
    exact ⟨u, eid, vs, L', rfl, ownsRow_block ho fun b hb => hL b (by simp [hb]), hr.mono fun x u L1 _ hb h => OT.kept (fun b hb' => hL b (by simp [hb b hb'])) h, rfl⟩
  | .pr a b, _, _, _, hL, h => by
    obtain ⟨u1, u2, L1, L2, rfl, rfl, h1, h2⟩ := h
    exact ⟨u1, u2, L1, L2, rfl, rfl, OT.kept (fun b hb => hL b (by simp [hb])) h1, OT.kept (fun b hb => hL b (by simp [hb])) h2⟩
theorem RR.kept {w w' : World} {I I' : Nat → Prop} (hS : ∀ b, I b → I' b) (hI : ∀ b, I b → ∀ o, w'.cell? ⟨b, o, none⟩ = w.cell? ⟨b, o, none⟩) {dp : Bool} {t : Ty} {x : t.T} {us : List Value} {L : List Nat} (hL : ∀ b ∈ L, w'.heap[b]? = w.heap[b]?) (h : RR w I dp t x us L) : RR w' I' dp t x us L := by
  cases dp with
  | true => exact OT.kept hL h
  | false => exact ⟨h.1, h.2.kept hS hI⟩
theorem OA.kept {w w' : World} {I I' : Nat → Prop} {dp : Bool} {eid : TypeId} {t : Ty} {xs : List t.T} {u : Value} {L : List Nat} (h : OA w I dp eid t xs u L) (hS : ∀ b, I b → I' b) (hI : ∀ b, I b → ∀ o, w'.cell? ⟨b, o, none⟩ = w.cell? ⟨b, o, none⟩) (hL : ∀ b ∈ L, w'.heap[b]? = w.heap[b]?) : OA w' I' dp eid t xs u L := by
  obtain ⟨vs, L', ho, hr, rfl⟩ := h
  exact ⟨vs, L', ownsRow_block ho fun b hb => hL b (by simp [hb]), hr.mono fun x u L1 _ hb h => RR.kept hS hI (fun b hb' => hL b (by simp [hb b hb'])) h, rfl⟩

/-- Rows that can be read, out of an owned slice. -/
theorem own_rt {w : World} {eid : TypeId} {e : Ty} {xs : List e.T} {u : Value} {vs : List Value} {L' : List Nat} {R : e.T → List Value → List Nat → Prop} {S : Nat → Prop} (ho : w.ownsRow 0 eid e.w u xs.length vs) (hr : Rows R xs vs L')
    (hk : ∀ x u L, R x u L → u.length = e.w) (hR : ∀ x u L1, (∀ b ∈ L1, b ∈ L') → R x u L1 → RT w S e x u) (hS : ∀ b, u.ownBlock = some b → S b) : RT w S (.sl e) xs [u] := by
  rcases ho.2 with ⟨rfl, hn⟩ | ⟨g, cap, cur, rfl, _, hg, hcap, hmax, hcs, htake⟩
  · have : xs = [] := List.eq_nil_of_length_eq_zero hn
    subst this
    exact ⟨none, 0, rfl, Nat.le_refl _, Nat.zero_le _, fun i row h => by simp at h⟩
  · refine ⟨_, cap, rfl, hcap, hmax, fun i x hx => ?_⟩
    obtain ⟨u1, us, u2, L1, L0, L2, rfl, rfl, e3, e4, _, h2, _⟩ := hr.at hk hx
    refine ⟨g, 0, us, rfl, ⟨hS g rfl, fun j v hv => ?_⟩, hR x us L0 (fun b hb => by simp [hb]) h2⟩
    have hjl := (List.getElem?_eq_some_iff.1 hv).1
    have hcell := ho.cells (g := g) rfl (i * e.w + j) v (by
      rw [List.append_assoc, List.getElem?_append_right (by omega), e3, Nat.add_sub_cancel_left, List.getElem?_append_left hjl]; exact hv)
    have hadd : (⟨g, 0, none⟩ : Addr).add (i * e.w + j) = ⟨g, i * e.w + j, none⟩ := by unfold Addr.add; split <;> simp_all
    rw [hadd] at hcell
    rw [Nat.zero_add]
    exact hcell
/-- What is owned can be read. -/
theorem OT.rt {w : World} : ∀ {t : Ty} {x : t.T} {us : List Value} {L : List Nat}, OT w t x us L → RT w (fun b => b ∈ L) t x us
  | .i _, _, _, _, h => h.1
  | .u8, _, _, _, h => h.1
  | .bo, _, _, _, h => h.1
  | .st, _, _, _, h => h.1
  | .un, _, _, _, h => h.1
  | .sl _, _, _, _, h => by
    obtain ⟨u, eid, vs, L', rfl, ho, hr, rfl⟩ := h
    exact own_rt ho hr (fun _ _ _ h => h.len) (fun x u L1 hb h => (OT.rt h).sub fun b hb' => by simp [hb b hb']) fun b hb => by simp [hb]
  | .pr a b, _, _, _, h => by
    obtain ⟨u1, u2, L1, L2, rfl, rfl, h1, h2⟩ := h
    exact ⟨u1, u2, rfl, (OT.rt h1).sub fun b hb => by simp [hb], (OT.rt h2).sub fun b hb => by simp [hb]⟩
theorem RR.rt {w : World} {I : Nat → Prop} {dp : Bool} {t : Ty} {x : t.T} {us : List Value} {L : List Nat} (h : RR w I dp t x us L) : RT w (fun b => I b ∨ b ∈ L) t x us := by
  cases dp with
  | true => exact (OT.rt h).sub fun b hb => .inr hb
  | false => exact h.2.sub fun b hb => .inl hb
theorem OA.rt {w : World} {I : Nat → Prop} {dp : Bool} {eid : TypeId} {t : Ty} {xs : List t.T} {u : Value} {L : List Nat} (h : OA w I dp eid t xs u L) : RT w (fun b => I b ∨ b ∈ L) (.sl t) xs [u] := by
  obtain ⟨vs, L', ho, hr, rfl⟩ := h
  exact own_rt ho hr (fun _ _ _ h => h.len) (fun x u L1 hb h => h.rt.sub fun b hb' => hb'.imp id fun h => by simp [hb b h]) fun b hb => .inr (by simp [hb])
/-- Its blocks are there. -/
theorem rows_lt {α : Type} {R : α → List Value → List Nat → Prop} {n : Nat} (hR : ∀ x u L, R x u L → ∀ b ∈ L, b < n) : ∀ {xs : List α} {us : List Value} {L : List Nat}, Rows R xs us L → ∀ b ∈ L, b < n
  | [], _, _, h, b, hb => by rw [h.2] at hb; simp at hb
  | x :: xs, _, _, h, b, hb => by
    obtain ⟨u1, u2, L1, L2, rfl, rfl, h1, h2⟩ := h
    rcases List.mem_append.1 hb with hb | hb
    · exact hR _ _ _ h1 b hb
    · exact rows_lt hR h2 b hb
theorem OT.lt {w : World} : ∀ {t : Ty} {x : t.T} {us : List Value} {L : List Nat}, OT w t x us L → ∀ b ∈ L, b < w.heap.size
  | .i _, _, _, _, h, b, hb => by rw [h.2] at hb; simp at hb
  | .u8, _, _, _, h, b, hb => by rw [h.2] at hb; simp at hb
  | .bo, _, _, _, h, b, hb => by rw [h.2] at hb; simp at hb
  | .st, _, _, _, h, b, hb => by rw [h.2] at hb; simp at hb
  | .un, _, _, _, h, b, hb => by rw [h.2] at hb; simp at hb
  | .sl _, _, _, _, h, b, hb => by
    obtain ⟨u, eid, vs, L', rfl, ho, hr, rfl⟩ := h
    rcases List.mem_append.1 hb with hb | hb
    · exact (ho.lt b (by simpa using hb)).2
    · exact rows_lt (fun _ _ _ h => OT.lt h) hr b hb
  | .pr a b', _, _, _, h, b, hb => by
    obtain ⟨u1, u2, L1, L2, rfl, rfl, h1, h2⟩ := h
    rcases List.mem_append.1 hb with hb | hb
    · exact OT.lt h1 b hb
    · exact OT.lt h2 b hb
theorem OA.lt {w : World} {I : Nat → Prop} {dp : Bool} {eid : TypeId} {t : Ty} {xs : List t.T} {u : Value} {L : List Nat} (h : OA w I dp eid t xs u L) : ∀ b ∈ L, b < w.heap.size := by
  obtain ⟨vs, L', ho, hr, rfl⟩ := h
  intro b hb
  rcases List.mem_append.1 hb with hb | hb
  · exact (ho.lt b (by simpa using hb)).2
  · refine rows_lt (R := RR w I dp t) (fun x u L h b hb => ?_) hr b hb
    cases dp with
    | true => exact OT.lt h b hb
    | false => rw [h.1] at hb; simp at hb
/-- Owned by its own cells alone: what lies deeper is read in I'. -/
theorem OA.shallow {w : World} {I : Nat → Prop} {dp : Bool} {eid : TypeId} {t : Ty} {xs : List t.T} {u : Value} {L : List Nat} (h : OA w I dp eid t xs u L) : OA w (fun b => I b ∨ (b ∈ L ∧ u.ownBlock ≠ some b)) false eid t xs u u.ownBlock.toList ∨ ¬ L.Nodup := by
  obtain ⟨vs, L', ho, hr, rfl⟩ := h
  by_cases hnd : (u.ownBlock.toList ++ L').Nodup
  · left
    have hne : ∀ b ∈ L', u.ownBlock ≠ some b := by
      intro b hb he
      rw [he] at hnd
      simp at hnd
      exact hnd.1 hb
    refine ⟨vs, [], ho, ?_, by simp⟩
    have key : ∀ {xs : List t.T} {us : List Value} {M : List Nat}, (∀ b ∈ M, b ∈ L') → Rows (RR w I dp t) xs us M → Rows (RR w (fun b => I b ∨ (b ∈ u.ownBlock.toList ++ L' ∧ u.ownBlock ≠ some b)) false t) xs us [] := by
      intro xs
      induction xs with
      | nil => intro us M _ h; exact ⟨h.1, rfl⟩
      | cons x xs ih =>
        intro us M hM h
        obtain ⟨u1, u2, L1, L2, rfl, rfl, h1, h2⟩ := h
        refine ⟨u1, u2, [], [], rfl, rfl, ⟨rfl, h1.rt.sub fun b hb => hb.imp id fun hb => ?_⟩, ih (fun b hb => hM b (by simp [hb])) h2⟩
        have := hM b (by simp [hb])
        exact ⟨by simp [this], hne b this⟩
    exact key (fun b hb => hb) hr
  · exact .inr hnd

/-! ### Cells of a typed datum -/
/-- What all rows of flat data are: owned and read are one. -/
theorem RT.ot {w w' : World} {S : Nat → Prop} : ∀ {t : Ty} {x : t.T} {us : List Value}, t.flat = true → RT w S t x us → OT w' t x us []
  | .i _, _, _, _, h => ⟨h, rfl⟩
  | .u8, _, _, _, h => ⟨h, rfl⟩
  | .bo, _, _, _, h => ⟨h, rfl⟩
  | .st, _, _, _, h => ⟨h, rfl⟩
  | .un, _, _, _, h => ⟨h, rfl⟩
  | .sl _, _, _, hf, _ => by simp [Ty.flat] at hf
  | .pr a b, _, _, hf, h => by
    obtain ⟨f1, f2⟩ := Bool.and_eq_true_iff.1 hf
    obtain ⟨u1, u2, rfl, h1, h2⟩ := h
    exact ⟨u1, u2, [], [], rfl, rfl, RT.ot f1 h1, RT.ot f2 h2⟩
end Go.LX
