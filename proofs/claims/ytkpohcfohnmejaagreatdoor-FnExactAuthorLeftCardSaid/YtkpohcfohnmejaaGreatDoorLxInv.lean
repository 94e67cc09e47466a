/- A part of the proof of the statement in the row text. -/
import Derived.Calls
import Derived.Laws.AppendOwn
import Derived.Below
/- Typed plain data and how memory holds it: what can be read (RT), what is owned (OT, OA). -/
set_option linter.unusedVariables false
set_option linter.unusedSimpArgs false
namespace Go.LX

inductive Ty where
  | i (k : IntKind) | u8 | bo | st | sl (e : Ty) | un | pr (a b : Ty)
  deriving DecidableEq, Inhabited

@[reducible] def Ty.T : Ty → Type
  | .i _ => Int | .u8 => UInt8 | .bo => Bool | .st => List UInt8 | .sl e => List e.T | .un => Unit | .pr a b => a.T × b.T

/-- How many cells. -/
def Ty.w : Ty → Nat
  | .pr a b => a.w + b.w
  | .un => 0
  | _ => 1
/-- Nothing of it lies in memory. -/
def Ty.flat : Ty → Bool
  | .pr a b => a.flat && b.flat
  | .sl _ => false
  | _ => true
def Ty.one : Ty → Bool
  | .pr _ _ | .un => false
  | _ => true
def dflt : (t : Ty) → t.T
  | .i _ => (0 : Int) | .u8 => (0 : UInt8) | .bo => false | .st => ([] : List UInt8) | .sl e => ([] : List e.T) | .un => () | .pr a b => (dflt a, dflt b)

/-- The cells vs stand at offset o of a block of S. -/
def CellsAt (w : World) (S : Nat → Prop) (b o : Nat) (vs : List Value) : Prop := S b ∧ ∀ j u, vs[j]? = some u → w.cell? ⟨b, o + j, none⟩ = some u

def strV (s : List UInt8) : Value := .string ⟨s.toArray⟩

/-- The cells us read as x, all of it in blocks of S. -/
def RT (w : World) (S : Nat → Prop) : (t : Ty) → t.T → List Value → Prop
  | .i k, n, us => us = [.int k n]
  | .u8, b, us => us = [.int .u8 (b.toNat : Int)]
  | .bo, b, us => us = [.bool b]
  | .st, s, us => us = [strV s]
  | .sl e, xs, us => ∃ A cap, us = [.slice A (List.length (α := e.T) xs) cap] ∧ List.length (α := e.T) xs ≤ cap ∧ cap ≤ maxLen ∧
      ∀ (i : Nat) (x : e.T), (xs : List e.T)[i]? = some x → ∃ b o vs, A = some ⟨b, o, none⟩ ∧ CellsAt w S b (o + i * e.w) vs ∧ RT w S e x vs
  | .un, _, us => us = []
  | .pr a b, x, us => ∃ us1 us2, us = us1 ++ us2 ∧ RT w S a x.1 us1 ∧ RT w S b x.2 us2

theorem RT.len {w : World} {S : Nat → Prop} : ∀ {t : Ty} {x : t.T} {us : List Value}, RT w S t x us → us.length = t.w
  | .i _, _, _, h => by subst h; rfl
  | .u8, _, _, h => by subst h; rfl
  | .bo, _, _, h => by subst h; rfl
  | .st, _, _, h => by subst h; rfl
  | .sl _, _, _, h => by obtain ⟨_, _, rfl, _⟩ := h; rfl
  | .un, _, _, h => by subst h; rfl
  | .pr a b, _, _, h => by obtain ⟨u1, u2, rfl, h1, h2⟩ := h; rw [List.length_append, h1.len, h2.len]; rfl
theorem RT.one {w : World} {S : Nat → Prop} : ∀ {t : Ty} {x : t.T} {us : List Value}, RT w S t x us → ∀ u ∈ us, u.oneCell' = true
  | .i _, _, _, h, u, hu => by subst h; simp at hu; subst hu; rfl
  | .u8, _, _, h, u, hu => by subst h; simp at hu; subst hu; rfl
  | .bo, _, _, h, u, hu => by subst h; simp at hu; subst hu; rfl
  | .st, _, _, h, u, hu => by subst h; simp at hu; subst hu; rfl
  | .sl _, _, _, h, u, hu => by obtain ⟨_, _, rfl, _⟩ := h; simp at hu; subst hu; rfl
  | .un, _, _, h, u, hu => by subst h; simp at hu
  | .pr a b, _, _, h, u, hu => by
    obtain ⟨u1, u2, rfl, h1, h2⟩ := h
    rcases List.mem_append.1 hu with hu | hu
    · exact h1.one u hu
    · exact h2.one u hu
/-- What is read stays read where its blocks stay. -/
theorem RT.kept {w w' : World} {S S' : Nat → Prop} (hS : ∀ b, S b → S' b) (hw : ∀ b, S b → ∀ o, w'.cell? ⟨b, o, none⟩ = w.cell? ⟨b, o, none⟩) : ∀ {t : Ty} {x : t.T} {us : List Value}, RT w S t x us → RT w' S' t x us
  | .i _, _, _, h => h
  | .u8, _, _, h => h
  | .bo, _, _, h => h
  | .st, _, _, h => h
  | .un, _, _, h => h
  | .sl _, _, _, h => by
    obtain ⟨A, cap, rfl, h1, h2, h3⟩ := h
    refine ⟨A, cap, rfl, h1, h2, fun i x hx => ?_⟩
    obtain ⟨b, o, vs, hA, hc, hr⟩ := h3 i x hx
    exact ⟨b, o, vs, hA, ⟨hS _ hc.1, fun j u hu => (hw _ hc.1 _).trans (hc.2 j u hu)⟩, RT.kept hS hw hr⟩
  | .pr a b, _, _, h => by
    obtain ⟨u1, u2, rfl, h1, h2⟩ := h
    exact ⟨u1, u2, rfl, RT.kept hS hw h1, RT.kept hS hw h2⟩
theorem RT.sub {w : World} {S S' : Nat → Prop} {t : Ty} {x : t.T} {us : List Value} (h : RT w S t x us) (hS : ∀ b, S b → S' b) : RT w S' t x us := h.kept hS fun _ _ _ => rfl
/-- Flat data reads alike everywhere. -/
theorem RT.free {w w' : World} {S S' : Nat → Prop} : ∀ {t : Ty} {x : t.T} {us : List Value}, t.flat = true → RT w S t x us → RT w' S' t x us
  | .i _, _, _, _, h => h
  | .u8, _, _, _, h => h
  | .bo, _, _, _, h => h
  | .st, _, _, _, h => h
  | .un, _, _, _, h => h
  | .sl _, _, _, hf, _ => by simp [Ty.flat] at hf
  | .pr a b, _, _, hf, h => by
    obtain ⟨f1, f2⟩ := Bool.and_eq_true_iff.1 hf
    obtain ⟨u1, u2, rfl, h1, h2⟩ := h
    exact ⟨u1, u2, rfl, RT.free f1 h1, RT.free f2 h2⟩

/-! ### Rows -/
/-- Each x by its own cells, one behind the other; the blocks of all. -/
def Rows {α : Type} (R : α → List Value → List Nat → Prop) : List α → List Value → List Nat → Prop
  | [], us, L => us = [] ∧ L = []
  | x :: xs, us, L => ∃ u1 u2 L1 L2, us = u1 ++ u2 ∧ L = L1 ++ L2 ∧ R x u1 L1 ∧ Rows R xs u2 L2

section
variable {α : Type} {R R' : α → List Value → List Nat → Prop}
theorem Rows.mono : ∀ {xs : List α} {us : List Value} {L : List Nat}, Rows R xs us L → (∀ x u L1, x ∈ xs → (∀ b ∈ L1, b ∈ L) → R x u L1 → R' x u L1) → Rows R' xs us L
  | [], _, _, h, _ => h
  | x :: xs, _, _, h, hR => by
    obtain ⟨u1, u2, L1, L2, rfl, rfl, h1, h2⟩ := h
    exact ⟨u1, u2, L1, L2, rfl, rfl, hR x u1 L1 (by simp) (fun b hb => by simp [hb]) h1, h2.mono fun x u L hx hL h => hR x u L (by simp [hx]) (fun b hb => by simp [hL b hb]) h⟩
theorem Rows.append : ∀ {xs ys : List α} {us vs : List Value} {L M : List Nat}, Rows R xs us L → Rows R ys vs M → Rows R (xs ++ ys) (us ++ vs) (L ++ M)
  | [], _, _, _, _, _, h, h' => by obtain ⟨rfl, rfl⟩ := h; exact h'
  | x :: xs, _, _, _, _, _, h, h' => by
    obtain ⟨u1, u2, L1, L2, rfl, rfl, h1, h2⟩ := h
    exact ⟨u1, u2 ++ _, L1, L2 ++ _, List.append_assoc .., List.append_assoc .., h1, h2.append h'⟩
theorem Rows.split : ∀ {xs ys : List α} {us : List Value} {L : List Nat}, Rows R (xs ++ ys) us L → ∃ u1 u2 L1 L2, us = u1 ++ u2 ∧ L = L1 ++ L2 ∧ Rows R xs u1 L1 ∧ Rows R ys u2 L2
  | [], _, us, L, h => ⟨[], us, [], L, rfl, rfl, ⟨rfl, rfl⟩, h⟩
  | x :: xs, _, _, _, h => by
    obtain ⟨u1, u2, L1, L2, rfl, rfl, h1, h2⟩ := h
    obtain ⟨v1, v2, M1, M2, rfl, rfl, h3, h4⟩ := Rows.split h2
    exact ⟨u1 ++ v1, v2, L1 ++ M1, M2, (List.append_assoc ..).symm, (List.append_assoc ..).symm, ⟨u1, v1, L1, M1, rfl, rfl, h1, h3⟩, h4⟩
theorem Rows.single {x : α} {us : List Value} {L : List Nat} : Rows R [x] us L ↔ R x us L := by
  constructor
  · rintro ⟨u1, u2, L1, L2, rfl, rfl, h1, rfl, rfl⟩; simpa using h1
  · exact fun h => ⟨us, [], L, [], by simp, by simp, h, rfl, rfl⟩
theorem Rows.len {k : Nat} (hk : ∀ x u L, R x u L → u.length = k) : ∀ {xs : List α} {us : List Value} {L : List Nat}, Rows R xs us L → us.length = xs.length * k
  | [], _, _, h => by obtain ⟨rfl, _⟩ := h; simp
  | x :: xs, _, _, h => by
    obtain ⟨u1, u2, L1, L2, rfl, rfl, h1, h2⟩ := h
    rw [List.length_append, hk _ _ _ h1, h2.len hk, List.length_cons, Nat.add_mul]; omega
/-- Row i, cut out. -/
theorem Rows.at {k : Nat} (hk : ∀ x u L, R x u L → u.length = k) {xs : List α} {us : List Value} {L : List Nat} (h : Rows R xs us L) {i : Nat} {x : α} (hx : xs[i]? = some x) :
    ∃ u1 u u2 L1 L0 L2, us = u1 ++ u ++ u2 ∧ L = L1 ++ L0 ++ L2 ∧ u1.length = i * k ∧ u.length = k ∧ Rows R (xs.take i) u1 L1 ∧ R x u L0 ∧ Rows R (xs.drop (i + 1)) u2 L2 := by
  have hi := (List.getElem?_eq_some_iff.1 hx).1
  have hx' : xs[i] = x := (List.getElem?_eq_some_iff.1 hx).2
  have e : xs = xs.take i ++ (x :: xs.drop (i + 1)) := by rw [← hx', ← List.drop_eq_getElem_cons hi, List.take_append_drop]
  rw [e] at h
  obtain ⟨u1, u2, L1, L2, rfl, rfl, h1, h2⟩ := h.split
  obtain ⟨v1, v2, M1, M2, rfl, rfl, h3, h4⟩ := h2
  refine ⟨u1, v1, v2, L1, M1, M2, (List.append_assoc ..).symm, (List.append_assoc ..).symm, ?_, hk _ _ _ h3, h1, h3, h4⟩
  rw [h1.len hk, List.length_take]; congr 1; omega
/-- Row i, told anew. -/
theorem Rows.set {k : Nat} (hk : ∀ x u L, R x u L → u.length = k) {xs : List α} {us : List Value} {L : List Nat} (h : Rows R xs us L) {i : Nat} {x y : α} (hx : xs[i]? = some x) :
    ∃ u1 u u2 L1 L0 L2, us = u1 ++ u ++ u2 ∧ L = L1 ++ L0 ++ L2 ∧ u1.length = i * k ∧ u.length = k ∧ R x u L0 ∧ ∀ v M, R y v M → Rows R (xs.set i y) (u1 ++ v ++ u2) (L1 ++ M ++ L2) := by
  obtain ⟨u1, u, u2, L1, L0, L2, e1, e2, e3, e4, h1, h2, h3⟩ := h.at hk hx
  refine ⟨u1, u, u2, L1, L0, L2, e1, e2, e3, e4, h2, fun v M hv => ?_⟩
  have hi := (List.getElem?_eq_some_iff.1 hx).1
  rw [List.set_eq_take_append_cons_drop, if_pos hi, List.append_assoc, List.append_assoc]
  exact h1.append (⟨v, u2, M, L2, rfl, rfl, hv, h3⟩ : Rows R (y :: xs.drop (i + 1)) _ _)
end

/-- An owned row: cells of one block, from some offset on, with room behind them. -/
def ownsR (w : World) (e : TypeId) (size : Nat) (v : Value) (n : Nat) (xs : List Value) : Prop :=
  xs.length = n * size ∧
  ((v = .slice none 0 0 ∧ n = 0) ∨
   ∃ g f cap cur, v = .slice (some ⟨g, f, none⟩) n cap ∧ w.heap[g]? = some (.cells cur e (0, 0)) ∧ n ≤ cap ∧ cap ≤ maxLen ∧ f + cap * size ≤ cur.size ∧ (cur.toList.drop f).take (n * size) = xs)
theorem ownsR_nil (w : World) (e : TypeId) (size : Nat) : ownsR w e size (.slice none 0 0) 0 [] := ⟨by simp, .inl ⟨rfl, rfl⟩⟩
theorem ownsR.of {w : World} {base : Nat} {e : TypeId} {size : Nat} {v : Value} {n : Nat} {xs : List Value} (h : w.ownsRow base e size v n xs) : ownsR w e size v n xs := by
  refine ⟨h.1, ?_⟩
  rcases h.2 with hn | ⟨g, cap, cur, rfl, hb, hg, h1, h2, h3, h4⟩
  · exact .inl hn
  · exact .inr ⟨g, 0, cap, cur, rfl, hg, h1, h2, by omega, by simpa using h4⟩
theorem ownsR.lt {w : World} {e : TypeId} {size : Nat} {v : Value} {n : Nat} {xs : List Value} (h : ownsR w e size v n xs) : ∀ k, v.ownBlock = some k → k < w.heap.size := by
  intro k hk
  rcases h.2 with ⟨rfl, _⟩ | ⟨g, f, cap, cur, rfl, hg, _⟩
  · simp [Value.ownBlock] at hk
  · simp [Value.ownBlock] at hk
    subst hk
    exact (Array.getElem?_eq_some_iff.1 hg).1
theorem ownsR.cells {w : World} {e : TypeId} {size : Nat} {n m cap : Nat} {xs : List Value} {g f : Nat} (h : ownsR w e size (.slice (some ⟨g, f, none⟩) m cap) n xs) : ∀ j u, xs[j]? = some u → w.cell? ⟨g, f + j, none⟩ = some u := by
  intro j u hu
  rcases h.2 with ⟨h, _⟩ | ⟨g', f', cap, cur, he, hgg, _, _, _, htake⟩
  · cases h
  · cases he
    rw [cell_of_row w g (f + j) cur e (0, 0) hgg]
    rw [← htake, List.getElem?_take] at hu
    split at hu
    · simpa using hu
    · cases hu
theorem ownsR.frozenAt {w : World} {e : TypeId} {size : Nat} {n m cap : Nat} {xs : List Value} {g f : Nat} (h : ownsR w e size (.slice (some ⟨g, f, none⟩) m cap) n xs) (j : Nat) : w.frozen? ⟨g, j, none⟩ = false := by
  rcases h.2 with ⟨h, _⟩ | ⟨g', f', cap, cur, he, hgg, _⟩
  · cases h
  · cases he
    simp [World.frozen?, hgg]

/-! ### Owned -/
/-- The cells us hold x, and the blocks L, each once, hold all that x has in memory. -/
def OT (w : World) : (t : Ty) → t.T → List Value → List Nat → Prop
  | .i k, n, us, L => us = [.int k n] ∧ L = []
  | .u8, b, us, L => us = [.int .u8 (b.toNat : Int)] ∧ L = []
  | .bo, b, us, L => us = [.bool b] ∧ L = []
  | .st, s, us, L => us = [strV s] ∧ L = []
  | .sl e, xs, us, L => ∃ u eid vs L', us = [u] ∧ ownsR w eid e.w u (List.length (α := e.T) xs) vs ∧ Rows (OT w e) xs vs L' ∧ L = u.ownBlock.toList ++ L'
  | .un, _, us, L => us = [] ∧ L = []
  | .pr a b, x, us, L => ∃ us1 us2 L1 L2, us = us1 ++ us2 ∧ L = L1 ++ L2 ∧ OT w a x.1 us1 L1 ∧ OT w b x.2 us2 L2

/-- A row: owned down to the ground (dp), or at its own cells alone. -/
def RR (w : World) (I : Nat → Prop) (dp : Bool) (t : Ty) (x : t.T) (us : List Value) (L : List Nat) : Prop := bif dp then OT w t x us L else L = [] ∧ RT w I t x us
/-- An owned slice. -/
def OA (w : World) (I : Nat → Prop) (dp : Bool) (eid : TypeId) (t : Ty) (xs : List t.T) (u : Value) (L : List Nat) : Prop :=
  ∃ vs L', ownsR w eid t.w u xs.length vs ∧ Rows (RR w I dp t) xs vs L' ∧ L = u.ownBlock.toList ++ L'

theorem OT.len {w : World} : ∀ {t : Ty} {x : t.T} {us : List Value} {L : List Nat}, OT w t x us L → us.length = t.w
  | .i _, _, _, _, h => by rw [h.1]; rfl
  | .u8, _, _, _, h => by rw [h.1]; rfl
  | .bo, _, _, _, h => by rw [h.1]; rfl
  | .st, _, _, _, h => by rw [h.1]; rfl
  | .sl _, _, _, _, h => by obtain ⟨_, _, _, _, rfl, _⟩ := h; rfl
  | .un, _, _, _, h => by rw [h.1]; rfl
  | .pr a b, _, _, _, h => by obtain ⟨u1, u2, L1, L2, rfl, rfl, h1, h2⟩ := h; rw [List.length_append, h1.len, h2.len]; rfl
theorem RR.len {w : World} {I : Nat → Prop} {dp : Bool} {t : Ty} {x : t.T} {us : List Value} {L : List Nat} (h : RR w I dp t x us L) : us.length = t.w := by
  cases dp with
  | true => exact OT.len h
  | false => exact h.2.len

theorem ownsR_block {w w' : World} {e : TypeId} {size : Nat} {v : Value} {n : Nat} {xs : List Value} (h : ownsR w e size v n xs) (hw : ∀ b, v.ownBlock = some b → w'.heap[b]? = w.heap[b]?) : ownsR w' e size v n xs := by
  refine ⟨h.1, ?_⟩
  rcases h.2 with hn | ⟨g, f, cap, cur, rfl, hg, rest⟩
  · exact .inl hn
  · exact .inr ⟨g, f, cap, cur, rfl, by rw [hw g rfl]; exact hg, rest⟩
theorem cell_block {w w' : World} {b : Nat} (h : w'.heap[b]? = w.heap[b]?) (o : Nat) : w'.cell? ⟨b, o, none⟩ = w.cell? ⟨b, o, none⟩ := World.cell?_of_block (a := ⟨b, o, none⟩) h
theorem frozen_block {w w' : World} {b : Nat} (h : w'.heap[b]? = w.heap[b]?) (o : Nat) : w'.frozen? ⟨b, o, none⟩ = w.frozen? ⟨b, o, none⟩ := World.frozen?_of_block (a := ⟨b, o, none⟩) h

theorem OT.kept {w w' : World} : ∀ {t : Ty} {x : t.T} {us : List Value} {L : List Nat}, (∀ b ∈ L, w'.heap[b]? = w.heap[b]?) → OT w t x us L → OT w' t x us L
  | .i _, _, _, _, _, h => h
  | .u8, _, _, _, _, h => h
  | .bo, _, _, _, _, h => h
  | .st, _, _, _, _, h => h
  | .un, _, _, _, _, h => h
  | .sl _, _, _, _, hL, h => by
    obtain ⟨u, eid, vs, L', rfl, ho, hr, rfl⟩ := h
    exact ⟨u, eid, vs, L', rfl, ownsR_block ho fun b hb => hL b (by simp [hb]), hr.mono fun x u L1 _ hb h => OT.kept (fun b hb' => hL b (by simp [hb b hb'])) h, rfl⟩
  | .pr a b, _, _, _, hL, h => by
    obtain ⟨u1, u2, L1, L2, rfl, rfl, h1, h2⟩ := h
    exact ⟨u1, u2, L1, L2, rfl, rfl, OT.kept (fun b hb => hL b (by simp [hb])) h1, OT.kept (fun b hb => hL b (by simp [hb])) h2⟩
theorem RR.kept {w w' : World} {I I' : Nat → Prop} (hS : ∀ b, I b → I' b) (hI : ∀ b, I b → ∀ o, w'.cell? ⟨b, o, none⟩ = w.cell? ⟨b, o, none⟩) {dp : Bool} {t : Ty} {x : t.T} {us : List Value} {L : List Nat} (hL : ∀ b ∈ L, w'.heap[b]? = w.heap[b]?) (h : RR w I dp t x us L) : RR w' I' dp t x us L := by
  cases dp with
  | true => exact OT.kept hL h
  | false => exact ⟨h.1, h.2.kept hS hI⟩
theorem OA.kept {w w' : World} {I I' : Nat → Prop} {dp : Bool} {eid : TypeId} {t : Ty} {xs : List t.T} {u : Value} {L : List Nat} (h : OA w I dp eid t xs u L) (hS : ∀ b, I b → I' b) (hI : ∀ b, I b → ∀ o, w'.cell? ⟨b, o, none⟩ = w.cell? ⟨b, o, none⟩) (hL : ∀ b ∈ L, w'.heap[b]? = w.heap[b]?) : OA w' I' dp eid t xs u L := by
  obtain ⟨vs, L', ho, hr, rfl⟩ := h
  exact ⟨vs, L', ownsR_block ho fun b hb => hL b (by simp [hb]), hr.mono fun x u L1 _ hb h => RR.kept hS hI (fun b hb' => hL b (by simp [hb b hb'])) h, rfl⟩

/-- Rows that can be read, out of an owned slice. -/
theorem own_rt {w : World} {eid : TypeId} {e : Ty} {xs : List e.T} {u : Value} {vs : List Value} {L' : List Nat} {R : e.T → List Value → List Nat → Prop} {S : Nat → Prop} (ho : ownsR w eid e.w u xs.length vs) (hr : Rows R xs vs L')
    (hk : ∀ x u L, R x u L → u.length = e.w) (hR : ∀ x u L1, (∀ b ∈ L1, b ∈ L') → R x u L1 → RT w S e x u) (hS : ∀ b, u.ownBlock = some b → S b) : RT w S (.sl e) xs [u] := by
  rcases ho.2 with ⟨rfl, hn⟩ | ⟨g, f, cap, cur, rfl, hg, hcap, hmax, hcs, htake⟩
  · have : xs = [] := List.eq_nil_of_length_eq_zero hn
    subst this
    exact ⟨none, 0, rfl, Nat.le_refl _, Nat.zero_le _, fun i row h => by simp at h⟩
  · refine ⟨_, cap, rfl, hcap, hmax, fun i x hx => ?_⟩
    obtain ⟨u1, us, u2, L1, L0, L2, rfl, rfl, e3, e4, _, h2, _⟩ := hr.at hk hx
    refine ⟨g, f, us, rfl, ⟨hS g rfl, fun j v hv => ?_⟩, hR x us L0 (fun b hb => by simp [hb]) h2⟩
    have hjl := (List.getElem?_eq_some_iff.1 hv).1
    have hcell := ho.cells (i * e.w + j) v (by
      rw [List.append_assoc, List.getElem?_append_right (by omega), e3, Nat.add_sub_cancel_left, List.getElem?_append_left hjl]; exact hv)
    rw [Nat.add_assoc]
    exact hcell
/-- What is owned can be read. -/
theorem OT.rt {w : World} : ∀ {t : Ty} {x : t.T} {us : List Value} {L : List Nat}, OT w t x us L → RT w (fun b => b ∈ L) t x us
  | .i _, _, _, _, h => h.1
  | .u8, _, _, _, h => h.1
  | .bo, _, _, _, h => h.1
  | .st, _, _, _, h => h.1
  | .un, _, _, _, h => h.1
  | .sl _, _, _, _, h => by
    obtain ⟨u, eid, vs, L', rfl, ho, hr, rfl⟩ := h
    exact own_rt ho hr (fun _ _ _ h => h.len) (fun x u L1 hb h => (OT.rt h).sub fun b hb' => by simp [hb b hb']) fun b hb => by simp [hb]
  | .pr a b, _, _, _, h => by
    obtain ⟨u1, u2, L1, L2, rfl, rfl, h1, h2⟩ := h
    exact ⟨u1, u2, rfl, (OT.rt h1).sub fun b hb => by simp [hb], (OT.rt h2).sub fun b hb => by simp [hb]⟩
theorem RR.rt {w : World} {I : Nat → Prop} {dp : Bool} {t : Ty} {x : t.T} {us : List Value} {L : List Nat} (h : RR w I dp t x us L) : RT w (fun b => I b ∨ b ∈ L) t x us := by
  cases dp with
  | true => exact (OT.rt h).sub fun b hb => .inr hb
  | false => exact h.2.sub fun b hb => .inl hb
theorem OA.rt {w : World} {I : Nat → Prop} {dp : Bool} {eid : TypeId} {t : Ty} {xs : List t.T} {u : Value} {L : List Nat} (h : OA w I dp eid t xs u L) : RT w (fun b => I b ∨ b ∈ L) (.sl t) xs [u] := by
  obtain ⟨vs, L', ho, hr, rfl⟩ := h
  exact own_rt ho hr (fun _ _ _ h => h.len) (fun x u L1 hb h => h.rt.sub fun b hb' => hb'.imp id fun h => by simp [hb b h]) fun b hb => .inr (by simp [hb])
/-- Its blocks are there. -/
theorem rows_lt {α : Type} {R : α → List Value → List Nat → Prop} {n : Nat} (hR : ∀ x u L, R x u L → ∀ b ∈ L, b < n) : ∀ {xs : List α} {us : List Value} {L : List Nat}, Rows R xs us L → ∀ b ∈ L, b < n
  | [], _, _, h, b, hb => by rw [h.2] at hb; simp at hb
  | x :: xs, _, _, h, b, hb => by
    obtain ⟨u1, u2, L1, L2, rfl, rfl, h1, h2⟩ := h
    rcases List.mem_append.1 hb with hb | hb
    · exact hR _ _ _ h1 b hb
    · exact rows_lt hR h2 b hb
theorem OT.lt {w : World} : ∀ {t : Ty} {x : t.T} {us : List Value} {L : List Nat}, OT w t x us L → ∀ b ∈ L, b < w.heap.size
  | .i _, _, _, _, h, b, hb => by rw [h.2] at hb; simp at hb
  | .u8, _, _, _, h, b, hb => by rw [h.2] at hb; simp at hb
  | .bo, _, _, _, h, b, hb => by rw [h.2] at hb; simp at hb
  | .st, _, _, _, h, b, hb => by rw [h.2] at hb; simp at hb
  | .un, _, _, _, h, b, hb => by rw [h.2] at hb; simp at hb
  | .sl _, _, _, _, h, b, hb => by
    obtain ⟨u, eid, vs, L', rfl, ho, hr, rfl⟩ := h
    rcases List.mem_append.1 hb with hb | hb
    · exact ho.lt b (by simpa using hb)
    · exact rows_lt (fun _ _ _ h => OT.lt h) hr b hb
  | .pr a b', _, _, _, h, b, hb => by
    obtain ⟨u1, u2, L1, L2, rfl, rfl, h1, h2⟩ := h
    rcases List.mem_append.1 hb with hb | hb
    · exact OT.lt h1 b hb
    · exact OT.lt h2 b hb
theorem OA.lt {w : World} {I : Nat → Prop} {dp : Bool} {eid : TypeId} {t : Ty} {xs : List t.T} {u : Value} {L : List Nat} (h : OA w I dp eid t xs u L) : ∀ b ∈ L, b < w.heap.size := by
  obtain ⟨vs, L', ho, hr, rfl⟩ := h
  intro b hb
  rcases List.mem_append.1 hb with hb | hb
  · exact ho.lt b (by simpa using hb)
  · refine rows_lt (R := RR w I dp t) (fun x u L h b hb => ?_) hr b hb
    cases dp with
    | true => exact OT.lt h b hb
    | false => rw [h.1] at hb; simp at hb
/-- Owned by its own cells alone: what lies deeper is read in I'. -/
theorem OA.shallow {w : World} {I : Nat → Prop} {dp : Bool} {eid : TypeId} {t : Ty} {xs : List t.T} {u : Value} {L : List Nat} (h : OA w I dp eid t xs u L) : OA w (fun b => I b ∨ (b ∈ L ∧ u.ownBlock ≠ some b)) false eid t xs u u.ownBlock.toList ∨ ¬ L.Nodup := by
  obtain ⟨vs, L', ho, hr, rfl⟩ := h
  by_cases hnd : (u.ownBlock.toList ++ L').Nodup
  · left
    have hne : ∀ b ∈ L', u.ownBlock ≠ some b := by
      intro b hb he
      rw [he] at hnd
      simp at hnd
      exact hnd.1 hb
    refine ⟨vs, [], ho, ?_, by simp⟩
    have key : ∀ {xs : List t.T} {us : List Value} {M : List Nat}, (∀ b ∈ M, b ∈ L') → Rows (RR w I dp t) xs us M → Rows (RR w (fun b => I b ∨ (b ∈ u.ownBlock.toList ++ L' ∧ u.ownBlock ≠ some b)) false t) xs us [] := by
      intro xs
      induction xs with
      | nil => intro us M _ h; exact ⟨h.1, rfl⟩
      | cons x xs ih =>
        intro us M hM h
        obtain ⟨u1, u2, L1, L2, rfl, rfl, h1, h2⟩ := h
        refine ⟨u1, u2, [], [], rfl, rfl, ⟨rfl, h1.rt.sub fun b hb => hb.imp id fun hb => ?_⟩, ih (fun b hb => hM b (by simp [hb])) h2⟩
        have := hM b (by simp [hb])
        exact ⟨by simp [this], hne b this⟩
    exact key (fun b hb => hb) hr
  · exact .inr hnd

/-! ### Cells of a typed datum -/
/-- What all rows of flat data are: owned and read are one. -/
theorem RT.ot {w w' : World} {S : Nat → Prop} : ∀ {t : Ty} {x : t.T} {us : List Value}, t.flat = true → RT w S t x us → OT w' t x us []
  | .i _, _, _, _, h => ⟨h, rfl⟩
  | .u8, _, _, _, h => ⟨h, rfl⟩
  | .bo, _, _, _, h => ⟨h, rfl⟩
  | .st, _, _, _, h => ⟨h, rfl⟩
  | .un, _, _, _, h => ⟨h, rfl⟩
  | .sl _, _, _, hf, _ => by simp [Ty.flat] at hf
  | .pr a b, _, _, hf, h => by
    obtain ⟨f1, f2⟩ := Bool.and_eq_true_iff.1 hf
    obtain ⟨u1, u2, rfl, h1, h2⟩ := h
    exact ⟨u1, u2, [], [], rfl, rfl, RT.ot f1 h1, RT.ot f2 h2⟩
end Go.LX

/- The abstract state of one call: slots and objects, and what they say of the machine. -/
set_option linter.unusedVariables false
set_option linter.unusedSimpArgs false
namespace Go.LX

/-- How a cell names an object: the slice, whole or a part; data inside; a pointer to a written-out cell; a slice over such cells; a pointer to an element; to data inside; what lies in cell j of row i. -/
inductive Rf where
  | ar
  | sb (off len : Nat)
  | vw (t : Ty) (x : t.T)
  | pb (c : Nat)
  | as (wd n : Nat) (e : TypeId)
  | pe (i j : Nat)
  | vp (t : Ty) (x : t.T) (j : Nat)
  | ns (i j : Nat)
/-- A cell: plain data; something of an object; a pointer to data; a closure over boxes; a value known by a fact of its own; nil; empty; just a value; whatever. -/
inductive C where
  | d (t : Ty) (x : t.T)
  | rf (o : Nat) (r : Rf)
  | pd (t : Ty) (x : t.T) (j : Nat)
  | pa (t : Ty) (xs : List t.T)
  | fc (fn : FuncId) (caps : List Nat)
  | sem (φ : World → (Nat → Prop) → Value → Prop)
  | nl | np | ni | z
  | val (v : Value)
  | any
  deriving Inhabited

inductive SV where
  | one (c : C)
  | ag (cs : List C)
  | tu (xs : List (Bool × List C))
  | un
  deriving Inhabited

/-- An object: no more; cells written out (a box, a literal's array); an owned slice's rows; rows that stand fixed. -/
inductive Ob where
  | dead
  | cells (cs : List C)
  | rows (e : TypeId) (t : Ty) (dp : Bool) (xs : List t.T)
  | fz (t : Ty) (dp : Bool) (xs : List t.T)
  deriving Inhabited

def SV.cells : SV → List C
  | .one c => [c]
  | .ag cs => cs
  | .tu xs => xs.flatMap (·.2)
  | .un => []
def valCells : Value → List Value
  | .tuple vs => vs.toList.flatMap fun v => v.cells.toList
  | u => u.cells.toList

def All2 {α β : Type} (R : α → β → Prop) : List α → List β → Prop
  | [], [] => True
  | a :: as, b :: bs => R a b ∧ All2 R as bs
  | _, _ => False
theorem All2.length {α β : Type} {R : α → β → Prop} : ∀ {as : List α} {bs : List β}, All2 R as bs → as.length = bs.length
  | [], [], _ => rfl
  | _ :: _, _ :: _, h => congrArg (· + 1) (All2.length h.2)
  | [], _ :: _, h => h.elim
  | _ :: _, [], h => h.elim
theorem All2.mono {α β : Type} {R R' : α → β → Prop} : ∀ {as : List α} {bs : List β}, (∀ a ∈ as, ∀ b, R a b → R' a b) → All2 R as bs → All2 R' as bs
  | [], [], _, _ => trivial
  | a :: as, b :: bs, hr, h => ⟨hr a (by simp) b h.1, All2.mono (fun a ha b => hr a (by simp [ha]) b) h.2⟩
  | [], _ :: _, _, h => h.elim
  | _ :: _, [], _, h => h.elim
theorem All2.get {α β : Type} {R : α → β → Prop} : ∀ {as : List α} {bs : List β}, All2 R as bs → ∀ {i : Nat} {a : α}, as[i]? = some a → ∃ b, bs[i]? = some b ∧ R a b
  | [], [], _, i, a, h => by simp at h
  | a :: as, b :: bs, h, 0, x, hx => ⟨b, rfl, by simp at hx; exact hx ▸ h.1⟩
  | a :: as, b :: bs, h, i + 1, x, hx => by
    obtain ⟨u, hu, hr⟩ := All2.get h.2 (i := i) (a := x) (by simpa using hx)
    exact ⟨u, by simpa using hu, hr⟩
  | [], _ :: _, h, _, _, _ => h.elim
  | _ :: _, [], h, _, _, _ => h.elim

def AggOK (n : Nat) (u : Value) : Prop := ∃ us : List Value, u = .agg us.toArray ∧ us.length = n ∧ ∀ v ∈ us, v.oneCell' = true
def ShapeOK : SV → Value → Prop
  | .one _, u => u.oneCell' = true
  | .ag cs, u => AggOK cs.length u
  | .tu xs, u => ∃ vs : List Value, u = .tuple vs.toArray ∧ All2 (fun x v => if x.1 = true then AggOK x.2.length v else v.oneCell' = true ∧ x.2.length = 1) xs vs
  | .un, _ => True

structure St where
  n : Nat
  slots : Nat → SV
  objs : Nat → Option Ob

def St.put (σ : St) (t : Nat) (s : SV) : St := { σ with slots := fun t' => bif Nat.beq t' t then s else σ.slots t' }
def St.setO (σ : St) (o : Nat) (b : Ob) : St := { σ with objs := fun o' => bif Nat.beq o' o then some b else σ.objs o' }

/-- Ghosts: where boxes lie; the owned slices' values; the blocks of each object. -/
structure Gh where
  addr : Nat → Nat × Nat
  base : Nat → Value
  L : Nat → List Nat

/-- A part of a slice. -/
def SubOf (base : Value) (wd n off len : Nat) (u : Value) : Prop :=
  ∃ A cap B c, base = .slice A n cap ∧ u = .slice B len c ∧ off + len ≤ n ∧ len ≤ c ∧ c ≤ maxLen ∧ (0 < len → ∃ b f, A = some ⟨b, f, none⟩ ∧ B = some ⟨b, f + off * wd, none⟩)
/-- A pointer to cell j of a datum. -/
def PD (w : World) (S : Nat → Prop) (t : Ty) (x : t.T) (j : Nat) (u : Value) : Prop := ∃ b o us, u = .pointer (some ⟨b, o + j, none⟩) ∧ CellsAt w S b o us ∧ RT w S t x us
/-- A pointer to an array's data. -/
def PA (w : World) (S : Nat → Prop) (t : Ty) (xs : List t.T) (u : Value) : Prop := ∃ b o, u = .pointer (some ⟨b, o, none⟩) ∧ ∀ (i : Nat) (x : t.T), xs[i]? = some x → ∃ vs, CellsAt w S b (o + i * t.w) vs ∧ RT w S t x vs
theorem PA.kept {w w' : World} {S S' : Nat → Prop} {t : Ty} {xs : List t.T} {u : Value} (h : PA w S t xs u) (hS : ∀ b, S b → S' b) (hw : ∀ b, S b → ∀ o, w'.cell? ⟨b, o, none⟩ = w.cell? ⟨b, o, none⟩) : PA w' S' t xs u := by
  obtain ⟨b, o, e, h⟩ := h
  refine ⟨b, o, e, fun i x hx => ?_⟩
  obtain ⟨vs, hc, hr⟩ := h i x hx
  exact ⟨vs, ⟨hS _ hc.1, fun j u hu => (hw _ hc.1 _).trans (hc.2 j u hu)⟩, hr.kept hS hw⟩
/-- What the package-level variables hold that are read. -/
class Glob where
  tab : Nat → Option (Σ t : Ty, List t.T)
  full : Nat → Bool
def GlobOK [Glob] (w : World) (I : Nat → Prop) : Prop := ∀ n t xs, Glob.tab n = some ⟨t, xs⟩ → PA w I t xs (.pointer (some ⟨n, 0, none⟩)) ∧ (Glob.full n = true → I n ∧ w.cell? ⟨n, xs.length * t.w, none⟩ = none)
theorem GlobOK.kept [Glob] {w w' : World} {I I' : Nat → Prop} (h : GlobOK w I) (hS : ∀ b, I b → I' b) (hw : ∀ b, I b → ∀ o, w'.cell? ⟨b, o, none⟩ = w.cell? ⟨b, o, none⟩) : GlobOK w' I' := fun n t xs hn => ⟨(h n t xs hn).1.kept hS hw, fun hf => by obtain ⟨h1, h2⟩ := (h n t xs hn).2 hf; exact ⟨hS n h1, (hw n h1 _).trans h2⟩⟩
def EltAt (base : Value) (wd n i j : Nat) (u : Value) : Prop := ∃ b f cap, base = .slice (some ⟨b, f, none⟩) n cap ∧ i < n ∧ u = .pointer (some ⟨b, f + i * wd + j, none⟩)
/-- A fact that stays where its blocks stay. -/
def Sem0 (φ : World → (Nat → Prop) → Value → Prop) : Prop := ∀ w w' I I' u, (∀ b, I b → I' b) → (∀ b, I b → ∀ o, w'.cell? ⟨b, o, none⟩ = w.cell? ⟨b, o, none⟩) → φ w I u → φ w' I' u

/-- Is cell j a slice? -/
def slAt : Ty → Nat → Bool
  | .pr a b, j => bif Nat.blt j a.w then slAt a j else slAt b (j - a.w)
  | .sl _, j => Nat.beq j 0
  | _, _ => false
/-- What a name of an object says of the value. -/
def see (w : World) (I : Nat → Prop) (ad : Nat × Nat) (base : Value) (L : List Nat) : Ob → Rf → Value → Prop
  | .rows _ _ _ _, .ar, u => u = base
  | .fz _ _ _, .ar, u => u = base
  | .rows _ t _ xs, .sb off len, u => SubOf base t.w xs.length off len u
  | .fz t _ xs, .sb off len, u => SubOf base t.w xs.length off len u
  | .rows _ _ true _, .vw t x, u => RT w (fun b => I b ∨ (b ∈ L ∧ base.ownBlock ≠ some b)) t x [u]
  | .fz _ true _, .vw t x, u => RT w I t x [u]
  | .cells _, .pb c, u => u = .pointer (some ⟨ad.1, ad.2 + c, none⟩)
  | .cells cs, .as wd n _, u => u = .slice (some ⟨ad.1, ad.2, none⟩) n n ∧ cs.length = n * wd ∧ n ≤ maxLen
  | .rows _ t _ xs, .pe i j, u => EltAt base t.w xs.length i j u
  | .fz t _ xs, .pe i j, u => EltAt base t.w xs.length i j u
  | .rows _ _ true _, .vp t x j, u => PD w (fun b => I b ∨ (b ∈ L ∧ base.ownBlock ≠ some b)) t x j u
  | .fz _ true _, .vp t x j, u => PD w I t x j u
  | .rows _ t true xs, .ns i j, u => slAt t j = true ∧ ∃ b f cap, base = .slice (some ⟨b, f, none⟩) xs.length cap ∧ i < xs.length ∧ w.cell? ⟨b, f + i * t.w + j, none⟩ = some u
  | .fz t true xs, .ns i j, u => slAt t j = true ∧ ∃ b f cap, base = .slice (some ⟨b, f, none⟩) xs.length cap ∧ i < xs.length ∧ w.cell? ⟨b, f + i * t.w + j, none⟩ = some u
  | _, _, _ => True
def seeO (w : World) (I : Nat → Prop) (ad : Nat × Nat) (base : Value) (L : List Nat) : Option Ob → Rf → Value → Prop
  | none, _, _ => False
  | some b, r, u => see w I ad base L b r u

def CR (w : World) (I : Nat → Prop) (g : Gh) (ob : Nat → Option Ob) : C → Value → Prop
  | .d t x, u => RT w I t x [u]
  | .rf o r, u => seeO w I (g.addr o) (g.base o) (g.L o) (ob o) r u
  | .pd t x j, u => PD w I t x j u
  | .pa t xs, u => PA w I t xs u
  | .fc fn caps, u => ∃ vs : List Value, u = .func (.func fn) #[] vs.toArray ∧ All2 (fun o v => seeO w I (g.addr o) (g.base o) (g.L o) (ob o) (.pb 0) v) caps vs
  | .sem φ, u => Sem0 φ ∧ φ w I u
  | .nl, u => u = .slice none 0 0
  | .np, u => u = .pointer none
  | .ni, u => u = .nilIface
  | .z, u => ∃ A, u = .slice A 0 0
  | .val v, u => u = v
  | .any, _ => True

/-- What stands fixed for one call: the world at entry, what was read then, the blocks handed in to be written, the cells of boxes handed in, where these lie, the slices handed in. -/
structure Ctx where
  w0 : World
  I0 : Nat → Prop
  X : Nat → Prop
  R : Nat → Nat → Prop
  E : Nat → Option (Nat × Nat)
  B : Nat → Option Value

structure Ctx.Fr (K : Ctx) (w : World) : Prop where
  os : w.os = K.w0.os
  tape : w.tape = K.w0.tape
  output : w.output = K.w0.output
  size : K.w0.heap.size ≤ w.heap.size
  old : ∀ b, b < K.w0.heap.size → ¬ K.X b → (∀ o, ¬ K.R b o) → w.heap[b]? = K.w0.heap[b]?
  part : ∀ b, b < K.w0.heap.size → ¬ K.X b → ∀ o, ¬ K.R b o → w.cell? ⟨b, o, none⟩ = K.w0.cell? ⟨b, o, none⟩
  froz : ∀ b, b < K.w0.heap.size → ¬ K.X b → ∀ o, w.frozen? ⟨b, o, none⟩ = K.w0.frozen? ⟨b, o, none⟩

/-- A box's cells. -/
def BoxR (K : Ctx) (w : World) (I : Nat → Prop) (g : Gh) (ob : Nat → Option Ob) (o : Nat) (cs : List C) : Prop :=
  ∀ (j : Nat) (c : C), cs[j]? = some c → ∃ u, w.cell? ⟨(g.addr o).1, (g.addr o).2 + j, none⟩ = some u ∧ w.frozen? ⟨(g.addr o).1, (g.addr o).2 + j, none⟩ = false ∧ u.oneCell' = true ∧
    ((g.addr o).1 < K.w0.heap.size → K.R (g.addr o).1 ((g.addr o).2 + j)) ∧ CR w I g ob c u

/-- An object, as it lies in memory. -/
def ObR (K : Ctx) (w : World) (I : Nat → Prop) (g : Gh) (ob : Nat → Option Ob) (o : Nat) : Prop :=
  match ob o with
  | none => g.L o = []
  | some .dead => g.L o = []
  | some (.cells cs) => g.L o = [(g.addr o).1] ∧ BoxR K w I g ob o cs
  | some (.rows e t dp xs) => OA w I dp e t xs (g.base o) (g.L o)
  | some (.fz t dp xs) => g.L o = [] ∧ RT w I (.sl t) xs [g.base o]

/-- May block b be written? -/
def Ctx.mine (K : Ctx) (b : Nat) : Prop := b < K.w0.heap.size → K.X b
/-- Is b a block of a box handed in? -/
def Ctx.ebox (K : Ctx) (o b : Nat) : Prop := ∃ a, K.E o = some a ∧ a.1 = b

structure Inv [Glob] (K : Ctx) (w : World) (I : Nat → Prop) (g : Gh) (σ : St) (tm : Array Value) : Prop where
  fr : K.Fr w
  size : tm.size = σ.n
  glob : GlobOK w I
  imm0 : ∀ b, K.I0 b → I b
  immX : ∀ b, I b → b < w.heap.size ∧ (b < K.w0.heap.size → K.I0 b ∨ K.X b)
  dis : ∀ o o' b, b ∈ g.L o → b ∈ g.L o' → o = o'
  nod : ∀ o, (g.L o).Nodup
  own : ∀ o b, b ∈ g.L o → ¬ I b ∧ b < w.heap.size ∧ (K.mine b ∨ K.ebox o b)
  ext : ∀ o a, K.E o = some a → o < 1000 ∧ ∀ q, σ.objs o = some q → g.addr o = a ∧ ¬ K.X a.1 ∧ a.1 < K.w0.heap.size ∧ ∃ cs, q = .cells cs
  exB : ∀ o v, K.B o = some v → o < 1000 ∧ ∀ q, σ.objs o = some q → g.base o = v
  obj : ∀ o, ObR K w I g σ.objs o
  shape : ∀ t, ShapeOK (σ.slots t) (tm.getD t undef)
  slot : ∀ (t i : Nat) (c : C), (σ.slots t).cells[i]? = some c → ∃ u, (valCells (tm.getD t undef))[i]? = some u ∧ CR w I g σ.objs c u

theorem beq_ne {a b : Nat} (h : a ≠ b) : Nat.beq a b = false := by
  cases hb : Nat.beq a b with
  | true => exact absurd (Nat.eq_of_beq_eq_true hb) h
  | false => rfl
theorem St.put_same (σ : St) (t : Nat) (s : SV) : (σ.put t s).slots t = s := by simp [St.put]
theorem St.put_other (σ : St) (t t' : Nat) (s : SV) (h : t' ≠ t) : (σ.put t s).slots t' = σ.slots t' := by simp [St.put, beq_ne h]
theorem St.setO_same (σ : St) (o : Nat) (b : Ob) : (σ.setO o b).objs o = some b := by simp [St.setO]
theorem St.setO_other (σ : St) (o o' : Nat) (b : Ob) (h : o' ≠ o) : (σ.setO o b).objs o' = σ.objs o' := by simp [St.setO, beq_ne h]

/-- A slot is written. -/
theorem Inv.put [Glob] {K : Ctx} {w : World} {I : Nat → Prop} {g : Gh} {σ : St} {tm : Array Value} (h : Inv K w I g σ tm) {t : Nat} {s : SV} {u : Value} (ht : t < σ.n)
    (hsh : ShapeOK s u) (hc : ∀ (i : Nat) (c : C), s.cells[i]? = some c → ∃ v, (valCells u)[i]? = some v ∧ CR w I g σ.objs c v) : Inv K w I g (σ.put t s) (tm.setIfInBounds t u) := by
  have hget : (tm.setIfInBounds t u).getD t undef = u := by
    have : t < tm.size := by rw [h.size]; exact ht
    simp [Array.getD_eq_getD_getElem?, this]
  have hoth : ∀ t', t' ≠ t → (tm.setIfInBounds t u).getD t' undef = tm.getD t' undef := fun t' hne => by
    simp [Array.getD_eq_getD_getElem?, Ne.symm hne]
  refine { h with
    size := by simpa [St.put] using h.size
    shape := fun t' => ?_
    slot := fun t' i c hi => ?_ }
  · by_cases e : t' = t
    · subst e; rw [St.put_same, hget]; exact hsh
    · rw [St.put_other _ _ _ _ e, hoth t' e]; exact h.shape t'
  · by_cases e : t' = t
    · subst e
      rw [St.put_same] at hi
      rw [hget]
      exact hc i c hi
    · rw [St.put_other _ _ _ _ e] at hi
      rw [hoth t' e]
      exact h.slot t' i c hi

/-! ### What a cell says, told anew -/
theorem PD.kept {w w' : World} {S S' : Nat → Prop} {t : Ty} {x : t.T} {j : Nat} {u : Value} (h : PD w S t x j u) (hS : ∀ b, S b → S' b) (hw : ∀ b, S b → ∀ o, w'.cell? ⟨b, o, none⟩ = w.cell? ⟨b, o, none⟩) : PD w' S' t x j u := by
  obtain ⟨b, o, us, e, hc, hr⟩ := h
  exact ⟨b, o, us, e, ⟨hS _ hc.1, fun j u hu => (hw _ hc.1 _).trans (hc.2 j u hu)⟩, hr.kept hS hw⟩
/-- An object's turn, as those that name it see it. -/
def Keep (w : World) (I : Nat → Prop) (g : Gh) (ob : Nat → Option Ob) (w' : World) (I' : Nat → Prop) (g' : Gh) (ob' : Nat → Option Ob) (o : Nat) : Prop :=
  ∀ r u, seeO w I (g.addr o) (g.base o) (g.L o) (ob o) r u → seeO w' I' (g'.addr o) (g'.base o) (g'.L o) (ob' o) r u

theorem CR.keep {w w' : World} {I I' : Nat → Prop} {g g' : Gh} {ob ob' : Nat → Option Ob} (hI : ∀ b, I b → I' b ∧ ∀ f, w'.cell? ⟨b, f, none⟩ = w.cell? ⟨b, f, none⟩) (hk : ∀ o, Keep w I g ob w' I' g' ob' o) {c : C} {u : Value}
    (h : CR w I g ob c u) : CR w' I' g' ob' c u := by
  have hI1 : ∀ b, I b → I' b := fun b hb => (hI b hb).1
  have hI2 : ∀ b, I b → ∀ f, w'.cell? ⟨b, f, none⟩ = w.cell? ⟨b, f, none⟩ := fun b hb => (hI b hb).2
  cases c with
  | d t x => exact RT.kept hI1 hI2 h
  | rf o r => exact hk o r u h
  | pd t x j => exact PD.kept h hI1 hI2
  | pa t xs => exact PA.kept h hI1 hI2
  | fc fn caps => obtain ⟨vs, e, ha⟩ := h; exact ⟨vs, e, ha.mono fun o _ v hv => hk o _ v hv⟩
  | sem φ => exact ⟨h.1, h.1 _ _ _ _ _ hI1 hI2 h.2⟩
  | nl => exact h
  | np => exact h
  | ni => exact h
  | z => exact h
  | val v => exact h
  | any => trivial

section
variable {w w' : World} {I I' : Nat → Prop} {ad ad' : Nat × Nat} {base base' : Value} {L L' : List Nat} {r : Rf} {u : Value}
theorem see_dead : see w I ad base L .dead r u := by cases r <;> trivial
/-- The object as it was; its blocks as they were. -/
theorem see_same {q : Ob} (hI : ∀ b, I b → I' b ∧ ∀ f, w'.cell? ⟨b, f, none⟩ = w.cell? ⟨b, f, none⟩) (hL : ∀ b, b ∈ L ∨ base.ownBlock = some b → (b ∈ L → b ∈ L') ∧ ∀ f, w'.cell? ⟨b, f, none⟩ = w.cell? ⟨b, f, none⟩)
    (h : see w I ad base L q r u) : see w' I' ad base L' q r u := by
  have k1 : ∀ {t : Ty} {x : t.T}, RT w (fun b => I b ∨ (b ∈ L ∧ base.ownBlock ≠ some b)) t x [u] → RT w' (fun b => I' b ∨ (b ∈ L' ∧ base.ownBlock ≠ some b)) t x [u] := fun h => h.kept (fun b hb => hb.elim (fun hb => .inl (hI b hb).1) fun hb => .inr ⟨(hL b (.inl hb.1)).1 hb.1, hb.2⟩) fun b hb => hb.elim (fun hb => (hI b hb).2) fun hb => (hL b (.inl hb.1)).2
  have k2 : ∀ {t : Ty} {x : t.T} {j : Nat}, PD w (fun b => I b ∨ (b ∈ L ∧ base.ownBlock ≠ some b)) t x j u → PD w' (fun b => I' b ∨ (b ∈ L' ∧ base.ownBlock ≠ some b)) t x j u := fun h => h.kept (fun b hb => hb.elim (fun hb => .inl (hI b hb).1) fun hb => .inr ⟨(hL b (.inl hb.1)).1 hb.1, hb.2⟩) fun b hb => hb.elim (fun hb => (hI b hb).2) fun hb => (hL b (.inl hb.1)).2
  have k3 : ∀ {t : Ty} {x : t.T}, RT w I t x [u] → RT w' I' t x [u] := fun h => h.kept (fun b hb => (hI b hb).1) fun b hb => (hI b hb).2
  have k4 : ∀ {t : Ty} {x : t.T} {j : Nat}, PD w I t x j u → PD w' I' t x j u := fun h => h.kept (fun b hb => (hI b hb).1) fun b hb => (hI b hb).2
  have k5 : ∀ {b f n cap o : Nat} , base = .slice (some ⟨b, f, none⟩) n cap → w.cell? ⟨b, o, none⟩ = some u → w'.cell? ⟨b, o, none⟩ = some u := fun he h => ((hL _ (.inr (by rw [he]; rfl))).2 _).trans h
  cases q with
  | dead => exact see_dead
  | cells cs => cases r <;> exact h
  | rows e t dp xs =>
    cases dp
    · cases r <;> exact h
    · cases r with
      | vw t x => exact k1 h
      | vp t x j => exact k2 h
      | ns i j => obtain ⟨h0, b, f, cap, h1, h2, h3⟩ := h; exact ⟨h0, b, f, cap, h1, h2, k5 h1 h3⟩
      | _ => exact h
  | fz t dp xs =>
    cases dp
    · cases r <;> exact h
    · cases r with
      | vw t x => exact k3 h
      | vp t x j => exact k4 h
      | ns i j => obtain ⟨h0, b, f, cap, h1, h2, h3⟩ := h; exact ⟨h0, b, f, cap, h1, h2, k5 h1 h3⟩
      | _ => exact h
/-- Its rows are told anew: cells of slices stay as they are. -/
theorem see_rows {e e' : TypeId} {t : Ty} {dp : Bool} {xs xs' : List t.T} (hl : xs'.length = xs.length) (hd : dp = true → (∀ b, (I b ∨ (b ∈ L ∧ base.ownBlock ≠ some b)) → (I' b ∨ (b ∈ L' ∧ base.ownBlock ≠ some b)) ∧ ∀ f, w'.cell? ⟨b, f, none⟩ = w.cell? ⟨b, f, none⟩) ∧
      ∀ b f n cap, base = .slice (some ⟨b, f, none⟩) n cap → ∀ i j, slAt t j = true → w'.cell? ⟨b, f + i * t.w + j, none⟩ = w.cell? ⟨b, f + i * t.w + j, none⟩)
    (h : see w I ad base L (.rows e t dp xs) r u) : see w' I' ad' base L' (.rows e' t dp xs') r u := by
  cases dp with
  | false => cases r <;> first | exact h | trivial | (simp only [see] at h ⊢; rw [hl]; exact h)
  | true =>
    obtain ⟨hd, hc⟩ := hd rfl
    cases r with
    | ns i j => obtain ⟨h0, b, f, cap, h1, h2, h3⟩ := h; exact ⟨h0, b, f, cap, by rw [hl]; exact h1, by rw [hl]; exact h2, (hc b f _ cap h1 i j h0).trans h3⟩
    | vw t x => exact RT.kept (fun b hb => (hd b hb).1) (fun b hb => (hd b hb).2) h
    | vp t x j => exact PD.kept h (fun b hb => (hd b hb).1) (fun b hb => (hd b hb).2)
    | _ => first | exact h | (simp only [see] at h ⊢; rw [hl]; exact h)
theorem see_fz {e : TypeId} {t : Ty} {dp : Bool} {xs : List t.T} (hd : ∀ b, (I b ∨ b ∈ L ∨ base.ownBlock = some b) → (I b ∨ b ∈ L → I' b) ∧ ∀ f, w'.cell? ⟨b, f, none⟩ = w.cell? ⟨b, f, none⟩)
    (h : see w I ad base L (.rows e t dp xs) r u) : see w' I' ad' base L' (.fz t dp xs) r u := by
  cases dp with
  | false => cases r <;> first | exact h | trivial
  | true =>
    cases r with
    | ns i j => obtain ⟨h0, b, f, cap, h1, h2, h3⟩ := h; exact ⟨h0, b, f, cap, h1, h2, ((hd b (.inr (.inr (by rw [h1]; rfl)))).2 _).trans h3⟩
    | vw t x => exact RT.kept (fun b hb => (hd b (hb.elim .inl fun hb => .inr (.inl hb.1))).1 (hb.imp id fun hb => hb.1)) (fun b hb => (hd b (hb.elim .inl fun hb => .inr (.inl hb.1))).2) h
    | vp t x j => exact PD.kept h (fun b hb => (hd b (hb.elim .inl fun hb => .inr (.inl hb.1))).1 (hb.imp id fun hb => hb.1)) (fun b hb => (hd b (hb.elim .inl fun hb => .inr (.inl hb.1))).2)
    | _ => exact h
/-- Owned down to the ground no more. -/
theorem see_shallow {e e' : TypeId} {t : Ty} {dp : Bool} {xs : List t.T} (h : see w I ad base L (.rows e t dp xs) r u) : see w' I' ad' base L' (.rows e' t false xs) r u := by
  cases dp <;> cases r <;> first | exact h | trivial
theorem see_cells {cs cs' : List C} (hl : cs'.length = cs.length) (h : see w I ad base L (.cells cs) r u) : see w' I' ad base' L' (.cells cs') r u := by
  cases r <;> first | exact h | trivial | (simp only [see] at h ⊢; rw [hl]; exact h)
end
end Go.LX

/- How the state's meaning turns: new blocks, new objects, objects let go, told anew, made fixed. -/
set_option linter.unusedVariables false
set_option linter.unusedSimpArgs false
namespace Go.LX

/-- The world w' is w but for the blocks T and new ones. -/
structure Grow (w w' : World) (T : Nat → Prop) : Prop where
  os : w'.os = w.os
  tape : w'.tape = w.tape
  output : w'.output = w.output
  size : w.heap.size ≤ w'.heap.size
  block : ∀ b, b < w.heap.size → ¬ T b → w'.heap[b]? = w.heap[b]?
theorem Grow.refl (w : World) (T : Nat → Prop) : Grow w w T := ⟨rfl, rfl, rfl, Nat.le_refl _, fun _ _ _ => rfl⟩
theorem Grow.of_below {w w' : World} (h : Go.RowKit.Below w.heap.size w w') : Grow w w' fun _ => False := ⟨h.os, h.tape, h.output, h.size, fun b hb _ => h.block b hb⟩
theorem Grow.of_grownBy {w w' : World} {r : Option Nat} (h : w.grownBy w' r) : Grow w w' fun b => r = some b := ⟨h.os, h.tape, h.output, h.size, fun b hb ht => h.block b hb fun e => ht e.symm⟩
theorem Grow.mono {w w' : World} {T T' : Nat → Prop} (h : Grow w w' T) (hT : ∀ b, T b → T' b) : Grow w w' T' := ⟨h.os, h.tape, h.output, h.size, fun b hb ht => h.block b hb fun e => ht (hT b e)⟩
theorem Grow.trans {w w' w'' : World} {T : Nat → Prop} (h : Grow w w' T) (h' : Grow w' w'' T) : Grow w w'' T := ⟨h'.os.trans h.os, h'.tape.trans h.tape, h'.output.trans h.output, Nat.le_trans h.size h'.size, fun b hb ht => (h'.block b (Nat.lt_of_lt_of_le hb h.size) ht).trans (h.block b hb ht)⟩

theorem Ctx.Fr.step {K : Ctx} {w w' : World} {T : Nat → Prop} (h : K.Fr w) (hg : Grow w w' T) (hT : ∀ b, T b → K.mine b) : K.Fr w' := by
  have hb : ∀ b, b < K.w0.heap.size → ¬ K.X b → w'.heap[b]? = w.heap[b]? := fun b hb hx => hg.block b (Nat.lt_of_lt_of_le hb h.size) fun ht => hx (hT b ht hb)
  exact {
    os := hg.os.trans h.os
    tape := hg.tape.trans h.tape
    output := hg.output.trans h.output
    size := Nat.le_trans h.size hg.size
    old := fun b h0 hx hr => (hb b h0 hx).trans (h.old b h0 hx hr)
    part := fun b h0 hx o hr => (cell_block (hb b h0 hx) o).trans (h.part b h0 hx o hr)
    froz := fun b h0 hx o => (frozen_block (hb b h0 hx) o).trans (h.froz b h0 hx o) }

/-- A block that nothing tells of. -/
structure Free (K : Ctx) (I : Nat → Prop) (g : Gh) (b : Nat) : Prop where
  i : ¬ I b
  l : ∀ o, b ∉ g.L o
  m : K.mine b

section
variable {K : Ctx} {w w' : World} {I I' : Nat → Prop} {g g' : Gh} {σ σ' : St} {tm : Array Value}

theorem ObR.same {ob ob' : Nat → Option Ob} {o : Nat} (hq : ob' o = ob o) (ha : g'.addr o = g.addr o) (hb : g'.base o = g.base o) (hL : g'.L o = g.L o) (hI : ∀ b, I b → I' b ∧ ∀ f, w'.cell? ⟨b, f, none⟩ = w.cell? ⟨b, f, none⟩)
    (hm : ∀ b ∈ g.L o, w'.heap[b]? = w.heap[b]?) (hk : ∀ o, Keep w I g ob w' I' g' ob' o) (h : ObR K w I g ob o) : ObR K w' I' g' ob' o := by
  unfold ObR at h ⊢
  rw [hq, hL, hb]
  cases hob : ob o with
  | none => rw [hob] at h; exact h
  | some q =>
    rw [hob] at h
    cases q with
    | dead => exact h
    | cells cs =>
      refine ⟨by rw [ha]; exact h.1, fun j c hj => ?_⟩
      have hbl : (g.addr o).1 ∈ g.L o := by rw [h.1]; simp
      obtain ⟨u, h1, h2, h3, h4, h5⟩ := h.2 j c hj
      rw [ha]
      exact ⟨u, (cell_block (hm _ hbl) _).trans h1, (frozen_block (hm _ hbl) _).trans h2, h3, h4, h5.keep hI hk⟩
    | rows e t dp xs => exact OA.kept h (fun b hb => (hI b hb).1) (fun b hb => (hI b hb).2) hm
    | fz t dp xs => exact ⟨h.1, h.2.kept (fun b hb => (hI b hb).1) fun b hb => (hI b hb).2⟩

/-- Everything told anew at one stroke. -/
theorem Inv.change [Glob] (h : Inv K w I g σ tm) (hn : σ'.n = σ.n) (hsl : σ'.slots = σ.slots) (hfr : K.Fr w') (hI : ∀ b, I b → I' b ∧ ∀ f, w'.cell? ⟨b, f, none⟩ = w.cell? ⟨b, f, none⟩) (himm : ∀ b, I' b → b < w'.heap.size ∧ (b < K.w0.heap.size → K.I0 b ∨ K.X b))
    (hk : ∀ o, Keep w I g σ.objs w' I' g' σ'.objs o) (hdis : ∀ o o' b, b ∈ g'.L o → b ∈ g'.L o' → o = o') (hnod : ∀ o, (g'.L o).Nodup) (hown : ∀ o b, b ∈ g'.L o → ¬ I' b ∧ b < w'.heap.size ∧ (K.mine b ∨ K.ebox o b))
    (hext : ∀ o a, K.E o = some a → o < 1000 ∧ ∀ q, σ'.objs o = some q → g'.addr o = a ∧ ¬ K.X a.1 ∧ a.1 < K.w0.heap.size ∧ ∃ cs, q = .cells cs) (hexB : ∀ o v, K.B o = some v → o < 1000 ∧ ∀ q, σ'.objs o = some q → g'.base o = v) (hob : ∀ o, ObR K w' I' g' σ'.objs o) : Inv K w' I' g' σ' tm where
  fr := hfr
  size := by rw [hn]; exact h.size
  glob := h.glob.kept (fun b hb => (hI b hb).1) fun b hb => (hI b hb).2
  imm0 := fun b hb => (hI b (h.imm0 b hb)).1
  immX := himm
  dis := hdis
  nod := hnod
  own := hown
  ext := hext
  exB := hexB
  obj := hob
  shape := fun t => by rw [hsl]; exact h.shape t
  slot := fun t i c hc => by
    rw [hsl] at hc
    obtain ⟨u, h1, h2⟩ := h.slot t i c hc
    exact ⟨u, h1, h2.keep hI hk⟩

theorem Inv.ob_lt [Glob] (h : Inv K w I g σ tm) {o b : Nat} (hb : b ∈ g.L o) : b < w.heap.size := (h.own o b hb).2.1

/-- The world turns at blocks that nothing tells of. -/
theorem Inv.scrib [Glob] (h : Inv K w I g σ tm) {T : Nat → Prop} (hg : Grow w w' T) (hT : ∀ b, T b → Free K I g b) : Inv K w' I g σ tm := by
  have hI : ∀ b, I b → I b ∧ ∀ f, w'.cell? ⟨b, f, none⟩ = w.cell? ⟨b, f, none⟩ := fun b hb => ⟨hb, fun f => cell_block (hg.block b (h.immX b hb).1 fun ht => (hT b ht).i hb) f⟩
  have hL : ∀ o b, b ∈ g.L o → w'.heap[b]? = w.heap[b]? := fun o b hb => hg.block b (h.ob_lt hb) fun ht => (hT b ht).l o hb
  have hk : ∀ o, Keep w I g σ.objs w' I g σ.objs o := by
    intro o r u hs
    have hob := h.obj o
    unfold ObR at hob
    cases hq : σ.objs o with
    | none => rw [hq] at hs; exact hs.elim
    | some q =>
      rw [hq] at hs hob
      simp only [seeO] at hs ⊢
      cases q with
      | dead => exact see_dead
      | cells cs => exact see_cells rfl hs
      | rows e t dp xs =>
        refine see_same hI (fun b hb => ⟨id, fun f => ?_⟩) hs
        rcases hb with hb | hb
        · exact cell_block (hL o b hb) f
        · obtain ⟨vs, L', ho, hr, e⟩ := hob
          exact cell_block (hL o b (by rw [e, hb]; simp)) f
      | fz t dp xs =>
        obtain ⟨h0, A, cap, hb0, hc1, hc2, hc3⟩ := hob
        cases r with
        | ns i j =>
          cases dp with
          | false => trivial
          | true =>
            obtain ⟨h0', b, f1, cap, h1, h2, h3⟩ := hs
            refine ⟨h0', b, f1, cap, h1, h2, ?_⟩
            rw [h1] at hb0
            simp only [List.cons.injEq, Value.slice.injEq, and_true] at hb0
            obtain ⟨b', o', vs, hA, hca, _⟩ := hc3 i xs[i] (List.getElem?_eq_getElem h2)
            rw [← hb0.1] at hA
            cases hA
            rw [(hI b hca.1).2]; exact h3
        | vw t x => cases dp with
          | false => trivial
          | true => exact RT.kept (fun b hb => (hI b hb).1) (fun b hb => (hI b hb).2) hs
        | vp t x j => cases dp with
          | false => trivial
          | true => exact PD.kept hs (fun b hb => (hI b hb).1) (fun b hb => (hI b hb).2)
        | _ => exact hs
  exact h.change rfl rfl (h.fr.step hg fun b ht => (hT b ht).m) hI (fun b hb => ⟨Nat.lt_of_lt_of_le (h.immX b hb).1 hg.size, (h.immX b hb).2⟩) hk h.dis h.nod
    (fun o b hb => ⟨(h.own o b hb).1, Nat.lt_of_lt_of_le (h.own o b hb).2.1 hg.size, (h.own o b hb).2.2⟩) h.ext h.exB fun o => ObR.same rfl rfl rfl rfl hI (hL o) hk (h.obj o)
theorem Inv.grow [Glob] (h : Inv K w I g σ tm) (hw : Go.RowKit.Below w.heap.size w w') : Inv K w' I g σ tm := h.scrib (Grow.of_below hw) fun _ h => h.elim

def Gh.setO (g : Gh) (o : Nat) (ad : Nat × Nat) (base : Value) (L : List Nat) : Gh :=
  ⟨fun x => if x = o then ad else g.addr x, fun x => if x = o then base else g.base x, fun x => if x = o then L else g.L x⟩
theorem Gh.setO_ne {o x : Nat} {ad : Nat × Nat} {base : Value} {L : List Nat} (h : x ≠ o) : (g.setO o ad base L).addr x = g.addr x ∧ (g.setO o ad base L).base x = g.base x ∧ (g.setO o ad base L).L x = g.L x := by
  simp [Gh.setO, h]
theorem Gh.setO_eq {o : Nat} {ad : Nat × Nat} {base : Value} {L : List Nat} : (g.setO o ad base L).addr o = ad ∧ (g.setO o ad base L).base o = base ∧ (g.setO o ad base L).L o = L := by
  simp [Gh.setO]

/-- One object is told anew; what it holds is among its own blocks and free ones. -/
theorem Inv.one [Glob] (h : Inv K w I g σ tm) {o : Nat} {q : Ob} {ad : Nat × Nat} {base : Value} {L : List Nat} {T : Nat → Prop} (hg : Grow w w' T) (hT : ∀ b, T b → b ∈ g.L o ∨ Free K I g b) (hfr : K.Fr w')
    (hII : ∀ b, I b → I' b) (hI' : ∀ b, I' b → I b ∨ ((b ∈ g.L o ∨ Free K I g b) ∧ K.mine b ∧ b ∉ L ∧ b < w'.heap.size))
    (hnd : L.Nodup) (hL : ∀ b ∈ L, b < w'.heap.size ∧ (b ∈ g.L o ∨ (Free K I g b)) ∧ (K.mine b ∨ K.ebox o b))
    (hE : ∀ a, K.E o = some a → ad = a ∧ ¬ K.X a.1 ∧ a.1 < K.w0.heap.size ∧ ∃ cs, q = .cells cs) (hB : ∀ v, K.B o = some v → base = v)
    (hk : Keep w I g σ.objs w' I' (g.setO o ad base L) (σ.setO o q).objs o)
    (hq : (∀ x, Keep w I g σ.objs w' I' (g.setO o ad base L) (σ.setO o q).objs x) → (∀ b, I b → I' b ∧ ∀ f, w'.cell? ⟨b, f, none⟩ = w.cell? ⟨b, f, none⟩) → ObR K w' I' (g.setO o ad base L) (σ.setO o q).objs o) : Inv K w' I' (g.setO o ad base L) (σ.setO o q) tm := by
  have hI : ∀ b, I b → I' b ∧ ∀ f, w'.cell? ⟨b, f, none⟩ = w.cell? ⟨b, f, none⟩ := fun b hb => ⟨hII b hb, fun f => cell_block (hg.block b (h.immX b hb).1 fun ht => by
    rcases hT b ht with ht | ht
    · exact (h.own o b ht).1 hb
    · exact ht.i hb) f⟩
  have hLo : ∀ x, x ≠ o → ∀ b, b ∈ g.L x → w'.heap[b]? = w.heap[b]? := fun x hx b hb => hg.block b (h.ob_lt hb) fun ht => by
    rcases hT b ht with ht | ht
    · exact hx (h.dis x o b hb ht)
    · exact ht.l x hb
  have hkx : ∀ x, Keep w I g σ.objs w' I' (g.setO o ad base L) (σ.setO o q).objs x := by
    intro x
    by_cases hx : x = o
    · subst hx; exact hk
    · intro r u hs
      obtain ⟨e1, e2, e3⟩ := Gh.setO_ne (g := g) (ad := ad) (base := base) (L := L) hx
      rw [e1, e2, e3, St.setO_other _ _ _ _ hx]
      have hob := h.obj x
      unfold ObR at hob
      cases hq : σ.objs x with
      | none => rw [hq] at hs; exact hs.elim
      | some p =>
        rw [hq] at hs hob
        simp only [seeO] at hs ⊢
        cases p with
        | dead => exact see_dead
        | cells cs => exact see_cells rfl hs
        | rows e t dp xs =>
          refine see_same hI (fun b hb => ⟨id, fun f => ?_⟩) hs
          rcases hb with hb | hb
          · exact cell_block (hLo x hx b hb) f
          · obtain ⟨vs, L', ho, hr, e⟩ := hob
            exact cell_block (hLo x hx b (by rw [e, hb]; simp)) f
        | fz t dp xs =>
          obtain ⟨h0, A, cap, hb0, hc1, hc2, hc3⟩ := hob
          cases r with
          | ns i j =>
            cases dp with
            | false => trivial
            | true =>
              obtain ⟨h0', b, f1, cap, h1, h2, h3⟩ := hs
              refine ⟨h0', b, f1, cap, h1, h2, ?_⟩
              rw [h1] at hb0
              simp only [List.cons.injEq, Value.slice.injEq, and_true] at hb0
              obtain ⟨b', o', vs, hA, hca, _⟩ := hc3 i xs[i] (List.getElem?_eq_getElem h2)
              rw [← hb0.1] at hA
              cases hA
              rw [(hI b hca.1).2]; exact h3
          | vw t x => cases dp with
            | false => trivial
            | true => exact RT.kept (fun b hb => (hI b hb).1) (fun b hb => (hI b hb).2) hs
          | vp t x j => cases dp with
            | false => trivial
            | true => exact PD.kept hs (fun b hb => (hI b hb).1) (fun b hb => (hI b hb).2)
          | _ => exact hs
  refine h.change rfl rfl hfr hI (fun b hb => ?_) hkx ?_ ?_ ?_ ?_ ?_ fun x => ?_
  · rcases hI' b hb with hb | ⟨h1, h2, h3, h4⟩
    · exact ⟨Nat.lt_of_lt_of_le (h.immX b hb).1 hg.size, (h.immX b hb).2⟩
    · exact ⟨h4, fun hlt => .inr (h2 hlt)⟩
  · intro x y b hx hy
    by_cases ex : x = o
    · by_cases ey : y = o
      · rw [ex, ey]
      · rw [ex, Gh.setO_eq.2.2] at hx
        rw [(Gh.setO_ne ey).2.2] at hy
        rcases (hL b hx).2.1 with h1 | h1
        · exact absurd (h.dis y o b hy h1) ey
        · exact absurd hy (h1.l y)
    · rw [(Gh.setO_ne ex).2.2] at hx
      by_cases ey : y = o
      · rw [ey, Gh.setO_eq.2.2] at hy
        rcases (hL b hy).2.1 with h1 | h1
        · exact absurd (h.dis x o b hx h1) ex
        · exact absurd hx (h1.l x)
      · rw [(Gh.setO_ne ey).2.2] at hy
        exact h.dis x y b hx hy
  · intro x
    by_cases ex : x = o
    · rw [ex, Gh.setO_eq.2.2]; exact hnd
    · rw [(Gh.setO_ne ex).2.2]; exact h.nod x
  · intro x b hb
    by_cases ex : x = o
    · rw [ex, Gh.setO_eq.2.2] at hb
      obtain ⟨h1, h2, h3⟩ := hL b hb
      refine ⟨fun hI => ?_, h1, by rw [ex]; exact h3⟩
      rcases hI' b hI with hI | ⟨_, _, hn, _⟩
      · rcases h2 with h2 | h2
        · exact (h.own o b h2).1 hI
        · exact h2.i hI
      · exact hn hb
    · rw [(Gh.setO_ne ex).2.2] at hb
      obtain ⟨h1, h2, h3⟩ := h.own x b hb
      refine ⟨fun hI => ?_, Nat.lt_of_lt_of_le h2 hg.size, h3⟩
      rcases hI' b hI with hI | ⟨h4 | h4, _⟩
      · exact h1 hI
      · exact ex (h.dis x o b hb h4)
      · exact h4.l x hb
  · intro x a hx
    refine ⟨(h.ext x a hx).1, fun p hp => ?_⟩
    by_cases ex : x = o
    · subst ex
      rw [St.setO_same] at hp
      cases hp
      rw [Gh.setO_eq.1]
      exact hE a hx
    · rw [St.setO_other _ _ _ _ ex] at hp
      rw [(Gh.setO_ne ex).1]; exact (h.ext x a hx).2 p hp
  · intro x v hx
    refine ⟨(h.exB x v hx).1, fun p hp => ?_⟩
    by_cases ex : x = o
    · subst ex; rw [Gh.setO_eq.2.1]; exact hB v hx
    · rw [St.setO_other _ _ _ _ ex] at hp
      rw [(Gh.setO_ne ex).2.1]; exact (h.exB x v hx).2 p hp
  · by_cases ex : x = o
    · subst ex; exact hq hkx hI
    · obtain ⟨e1, e2, e3⟩ := Gh.setO_ne (g := g) (ad := ad) (base := base) (L := L) ex
      exact ObR.same (St.setO_other _ _ _ _ ex) e1 e2 e3 hI (hLo x ex) hkx (h.obj x)

theorem Inv.noE [Glob] (h : Inv K w I g σ tm) {o : Nat} {q : Ob} (hq : σ.objs o = some q) (hn : ∀ cs, q ≠ .cells cs) (a : Nat × Nat) : K.E o ≠ some a := fun e => by
  obtain ⟨_, _, _, cs, hc⟩ := (h.ext o a e).2 q hq
  exact hn cs hc
theorem Inv.own_mine [Glob] (h : Inv K w I g σ tm) {o b : Nat} {q : Ob} (hq : σ.objs o = some q) (hn : ∀ cs, q ≠ .cells cs) (hb : b ∈ g.L o) : K.mine b := by
  rcases (h.own o b hb).2.2 with h1 | ⟨a, ha, _⟩
  · exact h1
  · exact absurd ha (h.noE hq hn a)
theorem Inv.noE' [Glob] (h : Inv K w I g σ tm) {o : Nat} (ho : 1000 ≤ o) : (∀ a, K.E o ≠ some a) ∧ ∀ v, K.B o ≠ some v :=
  ⟨fun a e => by have := (h.ext o a e).1; omega, fun v e => by have := (h.exB o v e).1; omega⟩
/-- An owned slice is let go: its blocks are free. -/
theorem Inv.kill [Glob] (h : Inv K w I g σ tm) {o : Nat} {e : TypeId} {t : Ty} {dp : Bool} {xs : List t.T} (ho : σ.objs o = some (.rows e t dp xs)) :
    Inv K w I (g.setO o (g.addr o) (g.base o) []) (σ.setO o .dead) tm ∧ ∀ b ∈ g.L o, Free K I (g.setO o (g.addr o) (g.base o) []) b := by
  refine ⟨h.one (Grow.refl w fun _ => False) (fun _ h => h.elim) h.fr (fun _ h => h) (fun b hb => .inl hb) List.nodup_nil (fun b hb => by simp at hb) (fun a ha => absurd ha (h.noE ho (fun _ h => by cases h) a)) (fun v hv => (h.exB o v hv).2 _ ho) ?_ fun _ _ => ?_, fun b hb => ⟨(h.own o b hb).1, fun x hx => ?_, h.own_mine ho (fun _ h => by cases h) hb⟩⟩
  · intro r u _
    rw [St.setO_same]; simp only [seeO]; exact see_dead
  · unfold ObR; rw [St.setO_same]; exact Gh.setO_eq.2.2
  · by_cases ex : x = o
    · subst ex; rw [Gh.setO_eq.2.2] at hx; simp at hx
    · rw [(Gh.setO_ne ex).2.2] at hx; exact ex (h.dis x o b hx hb)
/-- A new owned slice. -/
theorem Inv.newRows [Glob] (h : Inv K w I g σ tm) {o : Nat} {e : TypeId} {t : Ty} {dp : Bool} {xs : List t.T} {v : Value} {L : List Nat} (ho : σ.objs o = none) (hB : ∀ v', K.B o = some v' → v = v') (hE : ∀ a, K.E o ≠ some a) (hnd : L.Nodup) (hL : ∀ b ∈ L, Free K I g b) (hr : OA w I dp e t xs v L) :
    Inv K w I (g.setO o (g.addr o) v L) (σ.setO o (.rows e t dp xs)) tm := by
  refine h.one (Grow.refl w fun _ => False) (fun _ h => h.elim) h.fr (fun _ h => h) (fun b hb => .inl hb) hnd (fun b hb => ⟨hr.lt b hb, .inr (hL b hb), .inl (hL b hb).m⟩) (fun a ha => absurd ha (hE a)) hB ?_ fun _ _ => ?_
  · intro r u hs; rw [ho] at hs; exact hs.elim
  · unfold ObR; rw [St.setO_same]; rw [Gh.setO_eq.2.1, Gh.setO_eq.2.2]; exact hr
/-- A new box, or a literal's array: one block. -/
theorem Inv.newCells [Glob] (h : Inv K w I g σ tm) {o : Nat} {cs : List C} {b : Nat} (ho : σ.objs o = none) (h1000 : 1000 ≤ o) (hb : b < w.heap.size) (hf : Free K I g b) (hn : ¬ b < K.w0.heap.size)
    (hr : ∀ (j : Nat) (c : C), cs[j]? = some c → ∃ u, w.cell? ⟨b, j, none⟩ = some u ∧ w.frozen? ⟨b, j, none⟩ = false ∧ u.oneCell' = true ∧ CR w I g σ.objs c u) :
    Inv K w I (g.setO o (b, 0) (g.base o) [b]) (σ.setO o (.cells cs)) tm := by
  refine h.one (Grow.refl w fun _ => False) (fun _ h => h.elim) h.fr (fun _ h => h) (fun b hb => .inl hb) (by simp) (fun x hx => by simp at hx; subst hx; exact ⟨hb, .inr hf, .inl hf.m⟩) (fun a ha => absurd ha ((h.noE' h1000).1 a)) (fun v hv => absurd hv ((h.noE' h1000).2 v)) ?_ fun hk hI => ?_
  · intro r u hs; rw [ho] at hs; exact hs.elim
  · unfold ObR; rw [St.setO_same]; rw [Gh.setO_eq.1, Gh.setO_eq.2.2]
    refine ⟨rfl, fun j c hj => ?_⟩
    rw [Gh.setO_eq.1]
    obtain ⟨u, h1, h2, h3, h4⟩ := hr j c hj
    exact ⟨u, by simpa using h1, by simpa using h2, h3, fun hlt => absurd hlt hn, h4.keep hI hk⟩
/-- An owned slice is made fixed. -/
theorem Inv.freeze [Glob] (h : Inv K w I g σ tm) {o : Nat} {e : TypeId} {t : Ty} {dp : Bool} {xs : List t.T} (ho : σ.objs o = some (.rows e t dp xs)) :
    Inv K w (fun b => I b ∨ b ∈ g.L o) (g.setO o (g.addr o) (g.base o) []) (σ.setO o (.fz t dp xs)) tm := by
  have hob := h.obj o
  unfold ObR at hob
  rw [ho] at hob
  refine h.one (Grow.refl w fun _ => False) (fun _ h => h.elim) h.fr (fun _ h => .inl h) (fun b hb => hb.imp id fun hb => ⟨.inl hb, h.own_mine ho (fun _ h => by cases h) hb, by simp, h.ob_lt hb⟩) List.nodup_nil (fun b hb => by simp at hb) (fun a ha => absurd ha (h.noE ho (fun _ h => by cases h) a)) (fun v hv => (h.exB o v hv).2 _ ho) ?_ fun _ _ => ?_
  · intro r u hs
    rw [ho] at hs
    rw [St.setO_same, Gh.setO_eq.1, Gh.setO_eq.2.1]
    refine see_fz (fun b hb => ⟨fun hb => hb, fun f => rfl⟩) hs
  · unfold ObR; rw [St.setO_same]; rw [Gh.setO_eq.2.1, Gh.setO_eq.2.2]
    exact ⟨rfl, hob.rt⟩
/-- An owned slice's rows: owned by their own cells alone from now on. -/
theorem Inv.shallow [Glob] (h : Inv K w I g σ tm) {o : Nat} {e : TypeId} {t : Ty} {dp : Bool} {xs : List t.T} (ho : σ.objs o = some (.rows e t dp xs)) :
    Inv K w (fun b => I b ∨ (b ∈ g.L o ∧ (g.base o).ownBlock ≠ some b)) (g.setO o (g.addr o) (g.base o) (g.base o).ownBlock.toList) (σ.setO o (.rows e t false xs)) tm := by
  have hob := h.obj o
  unfold ObR at hob
  rw [ho] at hob
  have hsub : ∀ b ∈ (g.base o).ownBlock.toList, b ∈ g.L o := by
    obtain ⟨vs, L', _, _, e⟩ := hob
    intro b hb; rw [e]; simp at hb ⊢; exact .inl hb
  refine h.one (Grow.refl w fun _ => False) (fun _ h => h.elim) h.fr (fun _ h => .inl h) (fun b hb => hb.imp id fun hb => ⟨.inl hb.1, h.own_mine ho (fun _ h => by cases h) hb.1, by simpa using hb.2, h.ob_lt hb.1⟩) (by cases (g.base o).ownBlock <;> simp)
    (fun b hb => ⟨h.ob_lt (hsub b hb), .inl (hsub b hb), .inl (h.own_mine ho (fun _ h => by cases h) (hsub b hb))⟩) (fun a ha => absurd ha (h.noE ho (fun _ h => by cases h) a)) (fun v hv => (h.exB o v hv).2 _ ho) ?_ fun _ _ => ?_
  · intro r u hs
    rw [ho] at hs
    rw [St.setO_same, Gh.setO_eq.1, Gh.setO_eq.2.1]
    exact see_shallow hs
  · unfold ObR; rw [St.setO_same]; rw [Gh.setO_eq.2.1, Gh.setO_eq.2.2]
    exact hob.shallow.resolve_right fun hn => hn (h.nod o)
end
end Go.LX

