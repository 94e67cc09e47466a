/- A part of the proof of the statement in the row text. -/
import Derived.Test.YtojaiockbpcilaaLyG2
set_option linter.unusedVariables false
set_option linter.unusedSimpArgs false
namespace Go.LX
open Go.Proofs
attribute [local irreducible] W WO OpW RW EndQ
open Classical in
noncomputable def pkM (code : List UInt8) (a s n : Int) : Int × Int × Int := if h : code.length ≤ 16777216 ∧ CuB a s then (pick_ex code a s n h.1 h.2).choose else (0, a, s)
theorem pkM_ok (code : List UInt8) (a s n : Int) (hl : code.length ≤ 16777216) (hc : CuB a s) : (0 ≤ (pkM code a s n).1 ∧ (2 ≤ n → (pkM code a s n).1 < n) ∧ (n < 2 → (pkM code a s n).1 = 0)) ∧ CuN a s (pkM code a s n).2.1 (pkM code a s n).2.2 1 ∧ FnC Try.prog 68 [aCur code a s, aI n] [aCur code (pkM code a s n).2.1 (pkM code a s n).2.2, aX] (.one (sI (pkM code a s n).1)) := by
  unfold pkM
  rw [dif_pos ⟨hl, hc⟩]
  exact (pick_ex code a s n hl hc).choose_spec
open Classical in
noncomputable def onM (code : List UInt8) (a s n : Int) : Bool × Int × Int := if h : code.length ≤ 16777216 ∧ CuB a s ∧ (1 ≤ n ∧ n ≤ 100000) then (once_ex code a s n h.1 h.2.1 h.2.2).choose else (false, a, s)
theorem onM_ok (code : List UInt8) (a s n : Int) (hl : code.length ≤ 16777216) (hc : CuB a s) (hn : 1 ≤ n ∧ n ≤ 100000) : CuN a s (onM code a s n).2.1 (onM code a s n).2.2 1 ∧ FnC Try.prog 52 [aCur code a s, aI n] [aCur code (onM code a s n).2.1 (onM code a s n).2.2, aX] (.one (sB (onM code a s n).1)) := by
  unfold onM
  rw [dif_pos ⟨hl, hc, hn⟩]
  exact (once_ex code a s n hl hc hn).choose_spec
open Classical in
noncomputable def smM (code : List UInt8) (a s : Int) : Ed × Int × Int := if h : code.length ≤ 16777216 ∧ CuB a s ∧ a ≤ 800000000 then (small_ex code a s h.1 h.2.1 h.2.2).choose else ((0, 0, []), a, s)
theorem smM_ok (code : List UInt8) (a s : Int) (hl : code.length ≤ 16777216) (hc : CuB a s) (ha : a ≤ 800000000) : (smM code a s).1.2.2.length ≤ 401 ∧ CuN a s (smM code a s).2.1 (smM code a s).2.2 40 ∧ FnC Try.prog 41 [aCur code a s] [aCur code (smM code a s).2.1 (smM code a s).2.2] (.ag [sI (smM code a s).1.1, sI (smM code a s).1.2.1, oBy (smM code a s).1.2.2]) := by
  unfold smM
  rw [dif_pos ⟨hl, hc, ha⟩]
  exact (small_ex code a s hl hc ha).choose_spec
/-- A stack while it is drawn, and the cursor. -/
abbrev Qs : Type := List Ed × List Ed × Int × Int
structure GQ (q : Qs) : Prop where
  x : q.1.length ≤ 6
  y : q.2.1.length ≤ 6
  wx : ∀ e ∈ q.1, e.2.2.length ≤ 401
  wy : ∀ e ∈ q.2.1, e.2.2.length ≤ 401
  c : CuB q.2.2.1 q.2.2.2
def itM {α : Type} (f : α → α) : Nat → α → α
  | 0, x => x
  | n + 1, x => itM f n (f x)
theorem itM_ok {f : Qs → Qs} {d : Int} (hd : 0 ≤ d ∧ d ≤ 1000) (hf : ∀ q, GQ q → q.2.2.1 ≤ 700000000 → GQ (f q) ∧ CuN q.2.2.1 q.2.2.2 (f q).2.2.1 (f q).2.2.2 d) : ∀ (k : Nat) (q : Qs), k ≤ 100 → GQ q → q.2.2.1 + 1000 * k ≤ 700000000 → GQ (itM f k q) ∧ CuN q.2.2.1 q.2.2.2 (itM f k q).2.2.1 (itM f k q).2.2.2 (d * k)
  | 0, q, _, h, ha => ⟨h, by simp [itM], by simp [itM], h.c.s0, h.c.s1⟩
  | k + 1, q, hk, h, ha => by
    obtain ⟨h1, h2⟩ := hf q h (by omega)
    have h3 := h2.a1
    obtain ⟨h4, h5⟩ := itM_ok hd hf k (f q) (by omega) h1 (by omega)
    refine ⟨h4, (h2.trans h5).mono ?_⟩
    rw [show ((k + 1 : Nat) : Int) = (k : Int) + 1 by omega, Int.mul_add]
    omega
theorem topL_w {xs : List Ed} {e : Ed} {n : Nat} (hw : ∀ z ∈ xs, z.2.2.length ≤ n) (he : e.2.2.length ≤ n) : ∀ z ∈ topL xs e, z.2.2.length ≤ n := fun z hz => (topL_mem hz).elim (hw z) fun h => by rw [h]; exact he
noncomputable def psh1 (code : List UInt8) (q : Qs) : Qs := if pshB q.1 q.2.1 (smM code q.2.2.1 q.2.2.2).1 = true then ((pshM q.1 q.2.1 (smM code q.2.2.1 q.2.2.2).1).1, (pshM q.1 q.2.1 (smM code q.2.2.1 q.2.2.2).1).2, (smM code q.2.2.1 q.2.2.2).2) else (q.1, q.2.1, (smM code q.2.2.1 q.2.2.2).2)
theorem psh1_ok (code : List UInt8) (hl : code.length ≤ 16777216) (q : Qs) (h : GQ q) (ha : q.2.2.1 ≤ 700000000) : GQ (psh1 code q) ∧ CuN q.2.2.1 q.2.2.2 (psh1 code q).2.2.1 (psh1 code q).2.2.2 40 := by
  obtain ⟨h1, h2, _⟩ := smM_ok code q.2.2.1 q.2.2.2 hl h.c (by omega)
  have hc := h2.next h.c.a0 (by omega)
  unfold psh1
  split
  · rename_i hp
    rw [pshM, if_pos hp]
    exact ⟨⟨topL_len, by simp, topL_w h.wx h1, by simp, hc⟩, h2⟩
  · exact ⟨⟨h.x, h.y, h.wx, h.wy, hc⟩, h2⟩
noncomputable def trn1 (code : List UInt8) (q : Qs) : Qs := if trnB q.1 q.2.1 (onM code q.2.2.1 q.2.2.2 3).1 (smM code (onM code q.2.2.1 q.2.2.2 3).2.1 (onM code q.2.2.1 q.2.2.2 3).2.2).1 = true then ((trnM q.1 q.2.1 (onM code q.2.2.1 q.2.2.2 3).1 (smM code (onM code q.2.2.1 q.2.2.2 3).2.1 (onM code q.2.2.1 q.2.2.2 3).2.2).1).1, (trnM q.1 q.2.1 (onM code q.2.2.1 q.2.2.2 3).1 (smM code (onM code q.2.2.1 q.2.2.2 3).2.1 (onM code q.2.2.1 q.2.2.2 3).2.2).1).2, (smM code (onM code q.2.2.1 q.2.2.2 3).2.1 (onM code q.2.2.1 q.2.2.2 3).2.2).2) else (q.1, q.2.1, (smM code (onM code q.2.2.1 q.2.2.2 3).2.1 (onM code q.2.2.1 q.2.2.2 3).2.2).2)
theorem trn1_ok (code : List UInt8) (hl : code.length ≤ 16777216) (q : Qs) (h : GQ q) (ha : q.2.2.1 ≤ 700000000) : GQ (trn1 code q) ∧ CuN q.2.2.1 q.2.2.2 (trn1 code q).2.2.1 (trn1 code q).2.2.2 41 := by
  obtain ⟨h0, _⟩ := onM_ok code q.2.2.1 q.2.2.2 3 hl h.c (by decide)
  have hc0 := h0.next h.c.a0 (by omega)
  have h0' := h0.a1
  obtain ⟨h1, h2, _⟩ := smM_ok code _ _ hl hc0 (by omega)
  have h3 := (h0.trans h2).mono (k' := 41) (by decide)
  have hc := h3.next h.c.a0 (by omega)
  unfold trn1
  split
  · rename_i hp
    rw [trnM, if_pos hp]
    cases (onM code q.2.2.1 q.2.2.2 3).1
    · exact ⟨⟨by simp only [cond_false, List.length_take]; have := h.x; omega, topL_len, fun z hz => h.wx z (List.mem_of_mem_take hz), topL_w h.wy h1, hc⟩, h3⟩
    · exact ⟨⟨topL_len, by simp only [cond_true, List.length_take]; have := h.y; omega, topL_w h.wx h1, fun z hz => h.wy z (List.mem_of_mem_take hz), hc⟩, h3⟩
  · exact ⟨⟨h.x, h.y, h.wx, h.wy, hc⟩, h3⟩
noncomputable def filM (code : List UInt8) : Nat → Qs → Qs
  | 0, q => q
  | f + 1, q => if (q.2.1.length : Int) < 6 + (pkM code q.2.2.1 q.2.2.2 2).1 then filM code f (q.1, q.2.1 ++ [(0, 0, [])], (pkM code q.2.2.1 q.2.2.2 2).2) else (q.1, q.2.1, (pkM code q.2.2.1 q.2.2.2 2).2)
theorem filM_ok (code : List UInt8) (hl : code.length ≤ 16777216) : ∀ (f : Nat) (q : Qs), f ≤ 10 → CuB q.2.2.1 q.2.2.2 → q.2.1.length ≤ 8 → (∀ e ∈ q.2.1, e.2.2.length ≤ 401) → q.2.2.1 + f ≤ 700000000 → (filM code f q).1 = q.1 ∧ (filM code f q).2.1.length ≤ 8 ∧ (∀ e ∈ (filM code f q).2.1, e.2.2.length ≤ 401) ∧ CuN q.2.2.1 q.2.2.2 (filM code f q).2.2.1 (filM code f q).2.2.2 f
  | 0, q, _, hc, hy, hw, ha => ⟨rfl, hy, hw, by simp [filM], by simp [filM], hc.s0, hc.s1⟩
  | f + 1, q, hf, hc, hy, hw, ha => by
    obtain ⟨h1, h2, _⟩ := pkM_ok code q.2.2.1 q.2.2.2 2 hl hc
    have h3 := h1.2.1 (by decide)
    have h4 := h2.a1
    unfold filM
    split
    · obtain ⟨i1, i2, i3, i4⟩ := filM_ok code hl f (q.1, q.2.1 ++ [(0, 0, [])], (pkM code q.2.2.1 q.2.2.2 2).2) (by omega) (h2.next hc.a0 (by omega)) (by simp only [List.length_append, List.length_cons, List.length_nil]; omega) (fun e he => by
        rcases List.mem_append.1 he with he | he
        · exact hw e he
        · simp at he; rw [he]; simp) (by simp only; omega)
      exact ⟨i1, i2, i3, (h2.trans i4).mono (by omega)⟩
    · exact ⟨rfl, hy, hw, h2.mono (by omega)⟩
end Go.LX
