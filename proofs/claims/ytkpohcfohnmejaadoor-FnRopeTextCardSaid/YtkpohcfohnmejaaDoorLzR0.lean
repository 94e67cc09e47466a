/- A part of the proof of the statement in the row text. -/
import Derived.Test.YtkpohcfohnmejaaDoorLzX2
import Derived.Test.YtkpohcfohnmejaaDoorLzE8
import Derived.Test.YtkpohcfohnmejaaDoorLxFrz
set_option linter.unusedVariables false
set_option linter.unusedSimpArgs false
namespace Go.LX
open Go.Proofs
attribute [local irreducible] W WO OpW RW EndQ
/-- A cursor with room for so many draws; what a draw does to it. -/
abbrev CuR (a s k : Int) : Prop := (0 ≤ a ∧ a + k ≤ 500000000) ∧ 0 ≤ s ∧ s ≤ 65521
abbrev CuP (a a' s' k : Int) : Prop := (a ≤ a' ∧ a' ≤ a + k) ∧ 0 ≤ s' ∧ s' ≤ 65521
theorem CuR.b {a s k : Int} (h : CuR a s k) (hk : 0 ≤ k) : CuB a s := ⟨by omega, by omega, by omega, by omega⟩
theorem CuN.p {a s a' s' k : Int} (h : CuN a s a' s' k) : CuP a a' s' k := ⟨⟨h.a0, h.a1⟩, h.s0, h.s1⟩
theorem endR {R : Type} {φ E : R → Prop} (r : R) (hE : E r) (hφ : φ r) : ∃ r, φ r ∧ E r := ⟨r, hφ, hE⟩
theorem pick_r (code : List UInt8) (a s n : Int) (hl : code.length ≤ 16777216) (hc : CuR a s 1) : FnR Tryd.prog 71 [aCur code a s, aI n] (fun r : Int × Int × Int => [aCur code r.2.1 r.2.2, aX]) (fun r => .one (sI r.1)) (fun r => (0 ≤ r.1 ∧ (2 ≤ n → r.1 < n) ∧ (n < 2 → r.1 = 0)) ∧ CuP a r.2.1 r.2.2 1) := by
  obtain ⟨r, h1, h2, h3⟩ := pick_ex code a s n hl (hc.b (by decide))
  exact FnC.rel (r := r) h3 ⟨h1, h2.p⟩
theorem size_r (code : List UInt8) (a s n : Int) (hl : code.length ≤ 16777216) (hc : CuR a s 1 ∧ 1 ≤ n ∧ n ≤ 100000) : FnR Tryd.prog 111 [aCur code a s, aI n] (fun r : Int × Int × Int => [aCur code r.2.1 r.2.2, aX]) (fun r => .one (sI r.1)) (fun r => (0 ≤ r.1 ∧ r.1 ≤ n) ∧ CuP a r.2.1 r.2.2 1) := by
  obtain ⟨r, h1, h2, h3⟩ := size_ex code a s n hl (hc.1.b (by decide)) hc.2
  exact FnC.rel (r := r) h3 ⟨h1, h2.p⟩
theorem once_r (code : List UInt8) (a s n : Int) (hl : code.length ≤ 16777216) (hc : CuR a s 1 ∧ 1 ≤ n ∧ n ≤ 100000) : FnR Tryd.prog 104 [aCur code a s, aI n] (fun r : Bool × Int × Int => [aCur code r.2.1 r.2.2, aX]) (fun r => .one (sB r.1)) (fun r => CuP a r.2.1 r.2.2 1) := by
  obtain ⟨r, h2, h3⟩ := once_ex code a s n hl (hc.1.b (by decide)) hc.2
  exact FnC.rel (r := r) h3 h2.p
theorem raw_r (code : List UInt8) (a s : Int) (hl : code.length ≤ 16777216) (hc : CuR a s 2) : FnR Tryd.prog 72 [aCur code a s] (fun r : Int × Int × Int => [aCur code r.2.1 r.2.2]) (fun r => .one (sI r.1)) (fun r => CuP a r.2.1 r.2.2 2) := by
  obtain ⟨r, h2, h3⟩ := raw_ex code a s hl (hc.b (by decide)) (by omega)
  exact FnC.rel (r := r) h3 h2.p
theorem text_r (code : List UInt8) (a s n : Int) (hl : code.length ≤ 16777216) (hc : CuR a s (1 + 3 * n) ∧ 1 ≤ n ∧ n ≤ 1000) : FnR Tryd.prog 70 [aCur code a s, aI n] (fun r : List UInt8 × Int × Int => [aCur code r.2.1 r.2.2, aX]) (fun r => .one (oBy r.1)) (fun r => (r.1.length : Int) ≤ n ∧ CuP a r.2.1 r.2.2 (1 + 3 * n)) := by
  obtain ⟨r, h1, h2, h3⟩ := text_ex code a s n hl (hc.1.b (by omega)) (by omega) hc.2
  exact FnC.rel (r := r) h3 ⟨h1, h2.p⟩
theorem badtext_r (code : List UInt8) (a s n : Int) (hl : code.length ≤ 16777216) (hc : CuR a s (5 + 3 * n) ∧ 1 ≤ n ∧ n ≤ 1000) : FnR Tryd.prog 73 [aCur code a s, aI n] (fun r : List UInt8 × Int × Int => [aCur code r.2.1 r.2.2, aX]) (fun r => .one (oBy r.1)) (fun r => (r.1.length : Int) ≤ 1001 ∧ CuP a r.2.1 r.2.2 (5 + 3 * n)) := by
  obtain ⟨r, h1, h2, h3⟩ := badtext_ex code a s n hl (hc.1.b (by omega)) (by omega) hc.2
  exact FnC.rel (r := r) h3 ⟨by omega, h2.p⟩
theorem place_r (code : List UInt8) (a s n : Int) (hl : code.length ≤ 16777216) (hc : CuR a s 5 ∧ 0 ≤ n ∧ n ≤ 100000) : FnR Tryd.prog 107 [aCur code a s, aI n] (fun r : Int × Int × Int => [aCur code r.2.1 r.2.2, aX]) (fun r => .one (sI r.1)) (fun r => CuP a r.2.1 r.2.2 5) := by
  obtain ⟨r, h2, h3⟩ := place_ex code a s n hl (hc.1.b (by decide)) (by omega) hc.2
  exact FnC.rel (r := r) h3 h2.p
end Go.LX

