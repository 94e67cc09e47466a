/- Plain data and how memory holds it: what can be read (RB), what is owned (RO). -/
import Derived.Calls
import Derived.Laws.AppendOwn
import Derived.Below
namespace Go.AX

/-- Plain data: a scalar, a slice by its rows of cells, a pointer to cells that are read alone, a function with what it captured. -/
inductive D where
  | v (x : Value)
  | sl (rs : List (List D))
  | p (cs : List D)
  | f (fn : FuncId) (caps : List D)
  deriving Inhabited

def All2 {α β : Type} (R : α → β → Prop) : List α → List β → Prop
  | [], [] => True
  | a :: as, b :: bs => R a b ∧ All2 R as bs
  | _, _ => False

theorem All2.length {α β : Type} {R : α → β → Prop} : ∀ {as : List α} {bs : List β}, All2 R as bs → as.length = bs.length
  | [], [], _ => rfl
  | _ :: _, _ :: _, h => congrArg (· + 1) (All2.length h.2)
  | [], _ :: _, h => h.elim
  | _ :: _, [], h => h.elim
theorem All2.mono {α β : Type} {R R' : α → β → Prop} : ∀ {as : List α} {bs : List β}, (∀ a ∈ as, ∀ b, R a b → R' a b) → All2 R as bs → All2 R' as bs
  | [], [], _, _ => trivial
  | a :: as, b :: bs, hr, h => ⟨hr a (by simp) b h.1, All2.mono (fun a ha b => hr a (by simp [ha]) b) h.2⟩
  | [], _ :: _, _, h => h.elim
  | _ :: _, [], _, h => h.elim
theorem All2.get {α β : Type} {R : α → β → Prop} : ∀ {as : List α} {bs : List β}, All2 R as bs → ∀ {i : Nat} {a : α}, as[i]? = some a → ∃ b, bs[i]? = some b ∧ R a b
  | [], [], _, i, a, h => by simp at h
  | a :: as, b :: bs, h, 0, x, hx => ⟨b, rfl, by simp at hx; exact hx ▸ h.1⟩
  | a :: as, b :: bs, h, i + 1, x, hx => by
    obtain ⟨u, hu, hr⟩ := All2.get h.2 (i := i) (a := x) (by simpa using hx)
    exact ⟨u, by simpa using hu, hr⟩
  | [], _ :: _, h, _, _, _ => h.elim
  | _ :: _, [], h, _, _, _ => h.elim
theorem All2.append {α β : Type} {R : α → β → Prop} : ∀ {as : List α} {bs : List β} {as' : List α} {bs' : List β}, All2 R as bs → All2 R as' bs' → All2 R (as ++ as') (bs ++ bs')
  | [], [], _, _, _, h => h
  | _ :: _, _ :: _, _, _, h, h' => ⟨h.1, All2.append h.2 h'⟩
  | [], _ :: _, _, _, h, _ => h.elim
  | _ :: _, [], _, _, h, _ => h.elim
theorem All2.take {α β : Type} {R : α → β → Prop} : ∀ {as : List α} {bs : List β} (n : Nat), All2 R as bs → All2 R (as.take n) (bs.take n)
  | [], [], _, h => by simpa using h
  | _ :: _, _ :: _, 0, _ => by simp [All2]
  | _ :: _, _ :: _, n + 1, h => by simp only [List.take_succ_cons]; exact ⟨h.1, All2.take n h.2⟩
  | [], _ :: _, _, h => h.elim
  | _ :: _, [], _, h => h.elim
theorem All2.drop {α β : Type} {R : α → β → Prop} : ∀ {as : List α} {bs : List β} (n : Nat), All2 R as bs → All2 R (as.drop n) (bs.drop n)
  | [], [], _, h => by simpa using h
  | _ :: _, _ :: _, 0, h => h
  | _ :: _, _ :: _, n + 1, h => by simp only [List.drop_succ_cons]; exact All2.drop n h.2
  | [], _ :: _, _, h => h.elim
  | _ :: _, [], _, h => h.elim
theorem All2.bound {α β : Type} {R : Nat → α → β → Prop} (hm : ∀ n a b, R n a b → R (n + 1) a b) : ∀ {as : List α} {bs : List β}, All2 (fun a b => ∃ n, R n a b) as bs → ∃ n, All2 (R n) as bs
  | [], [], _ => ⟨0, trivial⟩
  | a :: as, b :: bs, h => by
    obtain ⟨n, hn⟩ := h.1
    obtain ⟨m, hm'⟩ := All2.bound hm h.2
    have up : ∀ k i a b, R i a b → R (i + k) a b := by
      intro k
      induction k with
      | zero => exact fun _ _ _ h => h
      | succ k ih => exact fun i a b h => hm _ _ _ (ih i a b h)
    refine ⟨n + m, up m n _ _ hn, ?_⟩
    rw [Nat.add_comm]
    exact All2.mono (fun a _ b h => up n m a b h) hm'
  | [], _ :: _, h => h.elim
  | _ :: _, [], h => h.elim

/-- A value that holds no address. -/
def scal : Value → Bool
  | .bool _ | .int _ _ | .string _ | .nilFunc | .nilIface | .pointer none => true
  | _ => false

/-- The cells vs stand at offset o of a block of S. -/
def CellsAt (w : World) (S : Nat → Prop) (b o : Nat) (vs : List Value) : Prop := S b ∧ ∀ j u, vs[j]? = some u → w.cell? ⟨b, o + j, none⟩ = some u

/-- The value u reads as d, all of it in blocks of S. -/
def RB (w : World) (S : Nat → Prop) : Nat → D → Value → Prop
  | 0, _, _ => False
  | _ + 1, .v x, u => u = x ∧ scal x = true
  | n + 1, .sl rs, u => ∃ A cap, u = .slice A rs.length cap ∧ rs.length ≤ cap ∧ cap ≤ maxLen ∧
      ∀ i row, rs[i]? = some row → ∃ b o vs, A = some ⟨b, o, none⟩ ∧ CellsAt w S b (o + i * row.length) vs ∧ All2 (RB w S n) row vs
  | n + 1, .p cs, u => ∃ b o vs, u = .pointer (some ⟨b, o, none⟩) ∧ CellsAt w S b o vs ∧ All2 (RB w S n) cs vs
  | n + 1, .f fn caps, u => ∃ vs : List Value, u = .func (.func fn) #[] vs.toArray ∧ All2 (RB w S n) caps vs

theorem RB.succ {w : World} {S : Nat → Prop} : ∀ {n : Nat} {d : D} {u : Value}, RB w S n d u → RB w S (n + 1) d u := by
  intro n
  induction n with
  | zero => exact fun h => h.elim
  | succ n ih =>
    intro d u h
    cases d with
    | v x => exact h
    | sl rs =>
      obtain ⟨A, cap, rfl, h1, h2, h3⟩ := h
      refine ⟨A, cap, rfl, h1, h2, fun i row hr => ?_⟩
      obtain ⟨b, o, vs, hA, hc, ha⟩ := h3 i row hr
      exact ⟨b, o, vs, hA, hc, ha.mono fun a _ b h => ih h⟩
    | p cs =>
      obtain ⟨b, o, vs, rfl, hc, ha⟩ := h
      exact ⟨b, o, vs, rfl, hc, ha.mono fun a _ b h => ih h⟩
    | f fn caps =>
      obtain ⟨vs, rfl, ha⟩ := h
      exact ⟨vs, rfl, ha.mono fun a _ b h => ih h⟩

theorem RB.up {w : World} {S : Nat → Prop} {n m : Nat} {d : D} {u : Value} (h : RB w S n d u) (hm : n ≤ m) : RB w S m d u := by
  obtain ⟨k, rfl⟩ := Nat.exists_eq_add_of_le hm
  clear hm
  induction k with
  | zero => exact h
  | succ k ih => exact RB.succ ih

/-- What is read stays read where its blocks stay. -/
theorem RB.kept {w w' : World} {S S' : Nat → Prop} (hS : ∀ b, S b → S' b) (hw : ∀ b, S b → ∀ o, w'.cell? ⟨b, o, none⟩ = w.cell? ⟨b, o, none⟩) :
    ∀ {n : Nat} {d : D} {u : Value}, RB w S n d u → RB w' S' n d u := by
  intro n
  induction n with
  | zero => exact fun h => h.elim
  | succ n ih =>
    have cells : ∀ {b o : Nat} {vs : List Value}, CellsAt w S b o vs → CellsAt w' S' b o vs :=
      fun h => ⟨hS _ h.1, fun j u hu => (hw _ h.1 _).trans (h.2 j u hu)⟩
    intro d u h
    cases d with
    | v x => exact h
    | sl rs =>
      obtain ⟨A, cap, rfl, h1, h2, h3⟩ := h
      refine ⟨A, cap, rfl, h1, h2, fun i row hr => ?_⟩
      obtain ⟨b, o, vs, hA, hc, ha⟩ := h3 i row hr
      exact ⟨b, o, vs, hA, cells hc, ha.mono fun a _ b h => ih h⟩
    | p cs =>
      obtain ⟨b, o, vs, rfl, hc, ha⟩ := h
      exact ⟨b, o, vs, rfl, cells hc, ha.mono fun a _ b h => ih h⟩
    | f fn caps =>
      obtain ⟨vs, rfl, ha⟩ := h
      exact ⟨vs, rfl, ha.mono fun a _ b h => ih h⟩

/-- The value u reads as d, all of it in blocks of S. -/
def Rd (w : World) (S : Nat → Prop) (d : D) (u : Value) : Prop := ∃ n, RB w S n d u

theorem Rd.kept {w w' : World} {S S' : Nat → Prop} {d : D} {u : Value} (h : Rd w S d u) (hS : ∀ b, S b → S' b) (hw : ∀ b, S b → ∀ o, w'.cell? ⟨b, o, none⟩ = w.cell? ⟨b, o, none⟩) : Rd w' S' d u :=
  h.imp fun _ h => h.kept hS hw
theorem Rd.sub {w : World} {S S' : Nat → Prop} {d : D} {u : Value} (h : Rd w S d u) (hS : ∀ b, S b → S' b) : Rd w S' d u := h.kept hS fun _ _ _ => rfl

theorem Rd.v {w : World} {S : Nat → Prop} {x u : Value} : Rd w S (.v x) u ↔ u = x ∧ scal x = true := by
  constructor
  · rintro ⟨n, h⟩; cases n with
    | zero => exact h.elim
    | succ n => exact h
  · exact fun h => ⟨1, h⟩

theorem all2_rd {w : World} {S : Nat → Prop} {ds : List D} {vs : List Value} (h : All2 (Rd w S) ds vs) : ∃ n, All2 (RB w S n) ds vs := All2.bound (fun _ _ _ h => h.succ) h

theorem Rd.sl_iff {w : World} {S : Nat → Prop} {rs : List (List D)} {u : Value} : Rd w S (.sl rs) u ↔ ∃ A cap, u = .slice A rs.length cap ∧ rs.length ≤ cap ∧ cap ≤ maxLen ∧
      ∀ i row, rs[i]? = some row → ∃ b o vs, A = some ⟨b, o, none⟩ ∧ CellsAt w S b (o + i * row.length) vs ∧ All2 (Rd w S) row vs := by
  constructor
  · rintro ⟨n, h⟩
    cases n with
    | zero => exact h.elim
    | succ n =>
      obtain ⟨A, cap, rfl, h1, h2, h3⟩ := h
      refine ⟨A, cap, rfl, h1, h2, fun i row hr => ?_⟩
      obtain ⟨b, o, vs, hA, hc, ha⟩ := h3 i row hr
      exact ⟨b, o, vs, hA, hc, ha.mono fun a _ b h => ⟨n, h⟩⟩
  · rintro ⟨A, cap, rfl, h1, h2, h3⟩
    -- one number for all rows
    have key : ∀ (m : Nat), ∃ n, ∀ i row, i < m → rs[i]? = some row → ∃ b o vs, A = some ⟨b, o, none⟩ ∧ CellsAt w S b (o + i * row.length) vs ∧ All2 (RB w S n) row vs := by
      intro m
      induction m with
      | zero => exact ⟨0, fun i _ hi => by omega⟩
      | succ m ih =>
        obtain ⟨n, hn⟩ := ih
        cases hr : rs[m]? with
        | none =>
          refine ⟨n, fun i row hi hrow => ?_⟩
          by_cases e : i = m
          · subst e; rw [hr] at hrow; cases hrow
          · exact hn i row (by omega) hrow
        | some row0 =>
          obtain ⟨b, o, vs, hA, hc, ha⟩ := h3 m row0 hr
          obtain ⟨n', hn'⟩ := all2_rd ha
          refine ⟨n + n', fun i row hi hrow => ?_⟩
          by_cases e : i = m
          · subst e
            rw [hr] at hrow
            obtain rfl := Option.some.inj hrow
            exact ⟨b, o, vs, hA, hc, hn'.mono fun a _ b h => h.up (by omega)⟩
          · obtain ⟨b, o, vs, hA, hc, ha⟩ := hn i row (by omega) hrow
            exact ⟨b, o, vs, hA, hc, ha.mono fun a _ b h => h.up (by omega)⟩
    obtain ⟨n, hn⟩ := key rs.length
    exact ⟨n + 1, A, cap, rfl, h1, h2, fun i row hr => hn i row (by have := (List.getElem?_eq_some_iff.1 hr).1; exact this) hr⟩

theorem Rd.p_iff {w : World} {S : Nat → Prop} {cs : List D} {u : Value} : Rd w S (.p cs) u ↔ ∃ b o vs, u = .pointer (some ⟨b, o, none⟩) ∧ CellsAt w S b o vs ∧ All2 (Rd w S) cs vs := by
  constructor
  · rintro ⟨n, h⟩
    cases n with
    | zero => exact h.elim
    | succ n =>
      obtain ⟨b, o, vs, rfl, hc, ha⟩ := h
      exact ⟨b, o, vs, rfl, hc, ha.mono fun a _ b h => ⟨n, h⟩⟩
  · rintro ⟨b, o, vs, rfl, hc, ha⟩
    obtain ⟨n, hn⟩ := all2_rd ha
    exact ⟨n + 1, b, o, vs, rfl, hc, hn⟩

theorem Rd.f_iff {w : World} {S : Nat → Prop} {fn : FuncId} {caps : List D} {u : Value} : Rd w S (.f fn caps) u ↔ ∃ vs : List Value, u = .func (.func fn) #[] vs.toArray ∧ All2 (Rd w S) caps vs := by
  constructor
  · rintro ⟨n, h⟩
    cases n with
    | zero => exact h.elim
    | succ n =>
      obtain ⟨vs, rfl, ha⟩ := h
      exact ⟨vs, rfl, ha.mono fun a _ b h => ⟨n, h⟩⟩
  · rintro ⟨vs, rfl, ha⟩
    obtain ⟨n, hn⟩ := all2_rd ha
    exact ⟨n + 1, vs, rfl, hn⟩

end Go.AX
