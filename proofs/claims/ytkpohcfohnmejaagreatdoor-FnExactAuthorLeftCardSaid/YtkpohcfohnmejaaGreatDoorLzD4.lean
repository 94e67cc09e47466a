/- A part of the proof of the statement in the row text. -/
import Derived.Test.YtkpohcfohnmejaaGreatDoorLzSeat
import Derived.Test.YtkpohcfohnmejaaGreatDoorLxStpL
set_option linter.unusedVariables false
set_option linter.unusedSimpArgs false
namespace Go.LX
open Go.Proofs
attribute [local irreducible] W WO OpW RW EndQ
abbrev oBy (xs : List UInt8) : S0 := .own 5 .u8 false xs
abbrev TEd : Ty := .pr (.i .i64) (.pr (.i .i64) (.sl .u8))
abbrev Ed : Type := Int × Int × List UInt8
/-- The drawing cursor: its code, its place, its seed. -/
abbrev aCur (code : List UInt8) (a s : Int) : SA := .bx [sBy code, sI a, sI s]
/-- What a cursor may hold. -/
structure CuB (a s : Int) : Prop where
  a0 : 0 ≤ a
  a1 : a ≤ 1000000000
  s0 : 0 ≤ s
  s1 : s ≤ 65521
/-- What a draw does to a cursor. -/
structure CuN (a s a' s' k : Int) : Prop where
  a0 : a ≤ a'
  a1 : a' ≤ a + k
  s0 : 0 ≤ s'
  s1 : s' ≤ 65521
theorem CuN.trans {a s a' s' a'' s'' k k' : Int} (h : CuN a s a' s' k) (h' : CuN a' s' a'' s'' k') : CuN a s a'' s'' (k + k') :=
  ⟨by have := h.a0; have := h'.a0; omega, by have := h.a1; have := h'.a1; omega, h'.s0, h'.s1⟩
theorem CuN.mono {a s a' s' k k' : Int} (h : CuN a s a' s' k) (hk : k ≤ k') : CuN a s a' s' k' := ⟨h.a0, by have := h.a1; omega, h.s0, h.s1⟩
theorem CuB.next {a s a' s' k : Int} (h : CuN a s a' s' k) (ha : 0 ≤ a) (hb : a + k ≤ 1000000000) : CuB a' s' := ⟨by have := h.a0; omega, by have := h.a1; omega, h.s0, h.s1⟩
end Go.LX

set_option linter.unusedVariables false
set_option linter.unusedSimpArgs false
namespace Go.LX
open Go.Proofs
attribute [local irreducible] W WO OpW RW EndQ
theorem getD_all {α : Type} {p : α → Prop} {l : List α} {d : α} (h : ∀ e ∈ l, p e) (hd : p d) (i : Nat) : p (l.getD i d) := by
  rw [List.getD_eq_getElem?_getD]
  cases he : l[i]? with
  | none => exact hd
  | some x => exact h x (List.mem_of_getElem? he)
/-- The bytes of a rune. -/
def rbE (n : Int) : List UInt8 := if n < 0 ∨ 1114111 < n ∨ (55296 ≤ n ∧ n ≤ 57343) then [] else if n < 128 then [toB n] else if n < 2048 then [toB (192 + n / 64), toB (128 + n % 64)] else if n < 65536 then [toB (224 + n / 4096), toB (128 + n / 64 % 64), toB (128 + n % 64)] else [toB (240 + n / 262144), toB (128 + n / 4096 % 64), toB (128 + n / 64 % 64), toB (128 + n % 64)]
theorem rbE_len (n : Int) : (rbE n).length ≤ 4 := by
  unfold rbE
  repeat' split
  all_goals simp
set_option maxHeartbeats 4000000 in
set_option maxRecDepth 20000 in
theorem runebytes_ok (n : Int) (hn : 0 ≤ n ∧ n ≤ 1114111) : FnC Tryz.prog 174 [aI n] [aX] (.one (oBy (rbE n))) := by
  by_cases h0 : 55296 ≤ n ∧ n ≤ 57343
  · have e : rbE n = [] := by rw [rbE, if_pos (by omega)]
    rw [e]
    refine FnC_of (fn := Tryz.f174) Tryz.func174 rfl rfl rfl ?_
    refine stp ?_ ?_ ?_ ?_ ?_ ?_ ?_ ?_ ?_ ?_ ?_ ?_ ?_ ?_ ?_ ?_ <;> (first | exact Mk.mk | exact trivial | (repeat intro hq))
    all_goals (try (exfalso; simp at *; omega))
  · by_cases h1 : n < 128
    · have e : rbE n = [toB n] := by rw [rbE, if_neg (by omega), if_pos h1]
      rw [e]
      refine FnC_of (fn := Tryz.f174) Tryz.func174 rfl rfl rfl ?_
      refine stp ?_ ?_ ?_ ?_ ?_ ?_ ?_ ?_ ?_ ?_ ?_ ?_ ?_ ?_ ?_ ?_ <;> (first | exact Mk.mk | exact trivial | (repeat intro hq))
      all_goals (try (exfalso; simp at *; omega))
    · by_cases h2 : n < 2048
      · have e : rbE n = [toB (192 + n / 64), toB (128 + n % 64)] := by rw [rbE, if_neg (by omega), if_neg h1, if_pos h2]
        rw [e]
        refine FnC_of (fn := Tryz.f174) Tryz.func174 rfl rfl rfl ?_
        refine stp ?_ ?_ ?_ ?_ ?_ ?_ ?_ ?_ ?_ ?_ ?_ ?_ ?_ ?_ ?_ ?_ <;> (first | exact Mk.mk | exact trivial | (repeat intro hq))
        all_goals (try (exfalso; simp at *; omega))
      · by_cases h3 : n < 65536
        · have e : rbE n = [toB (224 + n / 4096), toB (128 + n / 64 % 64), toB (128 + n % 64)] := by rw [rbE, if_neg (by omega), if_neg h1, if_neg h2, if_pos h3]
          rw [e]
          refine FnC_of (fn := Tryz.f174) Tryz.func174 rfl rfl rfl ?_
          refine stp ?_ ?_ ?_ ?_ ?_ ?_ ?_ ?_ ?_ ?_ ?_ ?_ ?_ ?_ ?_ ?_ <;> (first | exact Mk.mk | exact trivial | (repeat intro hq))
          all_goals (try (exfalso; simp at *; omega))
        · have e : rbE n = [toB (240 + n / 262144), toB (128 + n / 4096 % 64), toB (128 + n / 64 % 64), toB (128 + n % 64)] := by rw [rbE, if_neg (by omega), if_neg h1, if_neg h2, if_neg h3]
          rw [e]
          refine FnC_of (fn := Tryz.f174) Tryz.func174 rfl rfl rfl ?_
          refine stp ?_ ?_ ?_ ?_ ?_ ?_ ?_ ?_ ?_ ?_ ?_ ?_ ?_ ?_ ?_ ?_ <;> (first | exact Mk.mk | exact trivial | (repeat intro hq))
          all_goals (try (exfalso; simp at *; omega))
end Go.LX

set_option linter.unusedVariables false
set_option linter.unusedSimpArgs false
namespace Go.LX
open Go.Proofs
attribute [local irreducible] W WO OpW RW EndQ
end Go.LX

set_option linter.unusedVariables false
set_option linter.unusedSimpArgs false
namespace Go.LX
open Go.Proofs
attribute [local irreducible] W WO OpW RW EndQ
theorem CuN.next {a s a' s' k : Int} (h : CuN a s a' s' k) (ha : 0 ≤ a) (hb : a + k ≤ 1000000000) : CuB a' s' := CuB.next h ha hb
def rbM (n : Int) : List UInt8 := rbE n
theorem rbM_ok (n : Int) (h : 0 ≤ n ∧ n ≤ 1114111) : (rbM n).length ≤ 4 ∧ FnC Tryz.prog 174 [aI n] [aX] (.one (oBy (rbM n))) := ⟨rbE_len n, runebytes_ok n h⟩
end Go.LX

