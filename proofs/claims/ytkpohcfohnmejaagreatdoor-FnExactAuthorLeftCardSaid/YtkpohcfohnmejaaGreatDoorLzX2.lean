/- A part of the proof of the statement in the row text. -/
import Derived.Test.YtkpohcfohnmejaaGreatDoorLzH2
import Derived.Test.YtkpohcfohnmejaaGreatDoorLzG5
import Derived.Test.YtkpohcfohnmejaaGreatDoorLxNl
import Derived.Test.YtkpohcfohnmejaaGreatDoorLxStpL
import Derived.Test.YtkpohcfohnmejaaGreatDoorLzW2
set_option linter.unusedVariables false
set_option linter.unusedSimpArgs false
namespace Go.LX
open Go.Proofs
attribute [local irreducible] W WO OpW RW EndQ
set_option maxHeartbeats 4000000 in
set_option maxRecDepth 20000 in
theorem grow_ok (n : Int) (h : 0 ≤ n ∧ n ≤ 1000000000) : FnC Tryz.prog 146 [.nl, aI n] [aX, aX] (.one (oBy [])) := by
  refine FnC_of (fn := Tryz.f146) Tryz.func146 rfl rfl rfl ?_
  refine stpC ?_ ?_ ?_ ?_ ?_ ?_ ?_ ?_ ?_ ?_ ?_ ?_ ?_ ?_ ?_ ?_ <;> (first | exact Mk.mk | exact trivial | (repeat intro hq))
/-- How long all are together. -/
def sumL (xss : List (List UInt8)) : Nat := xss.flatten.length
theorem sumL_take {xss : List (List UInt8)} {i : Nat} (h : i < xss.length) (d : List UInt8) : sumL (xss.take (i + 1)) = sumL (xss.take i) + (xss.getD i d).length := by
  rw [take1 h d, sumL, sumL, List.flatten_append, List.length_append, List.flatten_singleton]
theorem sumL_le {xss : List (List UInt8)} {i : Nat} : sumL (xss.take i) ≤ sumL xss := by
  have : sumL xss = sumL (xss.take i) + sumL (xss.drop i) := by
    unfold sumL; rw [← List.length_append, ← List.flatten_append, List.take_append_drop]
  omega
theorem flatT {xss : List (List UInt8)} {i : Nat} (h : i < xss.length) (d : List UInt8) : (xss.take (i + 1)).flatten = (xss.take i).flatten ++ xss.getD i d := by
  rw [take1 h d, List.flatten_append, List.flatten_singleton]
abbrev aBs (xss : List (List UInt8)) : SA := .c (.d (.sl (.sl .u8)) xss)
set_option maxHeartbeats 4000000 in
set_option maxRecDepth 20000 in
theorem concat_ok (xss : List (List UInt8)) (hn : xss.length ≤ 1000000) (hl : sumL xss ≤ 1000000000) : FnC Tryz.prog 99 [aBs xss] [aX] (.one (oBy xss.flatten)) := by
  refine FnC_of (fn := Tryz.f99) Tryz.func99 rfl rfl rfl ?_
  refine stp ?_ ?_ ?_ ?_ ?_ ?_ ?_ ?_ ?_ ?_ ?_ ?_ ?_ ?_ ?_ ?_ <;> (first | exact Mk.mk | exact trivial | (repeat intro hq))
  refine W_loopT (fun i : Nat => St.tmpl 36 [(0, .one (.d (.sl (.sl .u8)) xss)), (3, .one (.d (.i .i64) (sumL (xss.take i) : Nat))), (9, .one (.d (.sl (.sl .u8)) xss)), (10, .one (.d (.i .i64) (xss.length : Nat))), (11, .one (.d (.i .i64) (i : Int)))] []) (fun i => i ≤ xss.length) (fun i => xss.length - i) 0 (Nat.zero_le _) ?_ ?_
  · exact Wk_tmpl [] ⟨rfl, rfl, rfl, rfl, rfl, trivial⟩ trivial rfl rfl
  · intro i hi
    have hs := sumL_le (xss := xss) (i := i)
    have hs1 := sumL_le (xss := xss) (i := i + 1)
    have ht := fun h : i < xss.length => sumL_take h (dflt (.sl .u8))
    have zE1 := fun {z0} zh => grow_ok z0 zh
    refine stp ?_ ?_ ?_ ?_ ?_ ?_ ?_ ?_ ?_ ?_ ?_ ?_ ?_ ?_ ?_ ?_ <;> (first | exact Mk.mk | exact trivial | (repeat intro hq))
    · have hlt : i < xss.length := by simpa using hq
      refine ⟨i + 1, by omega, by omega, Wk_tmpl [] ⟨rfl, ?_, rfl, rfl, rfl, trivial⟩ trivial rfl rfl⟩
      refine congrArg (fun r => SV.one (C.d (Ty.i IntKind.i64) r)) ?_
      show (sumL (xss.take i) : Int) + ((xss.getD i (dflt (.sl .u8))).length : Nat) = _
      rw [ht hlt, Int.natCast_add]
    · refine W_loopT (fun i : Nat => St.tmpl 36 [(6, .one (.rf 7000 .ar)), (25, .one (.d (.sl (.sl .u8)) xss)), (26, .one (.d (.i .i64) (xss.length : Nat))), (27, .one (.d (.i .i64) (i : Int)))] [(7000, .rows 5 .u8 false (xss.take i).flatten)]) (fun i => i ≤ xss.length) (fun i => xss.length - i) 0 (Nat.zero_le _) ?_ ?_
      · exact Wk_tmpl [(7000, 25000)] ⟨rfl, rfl, rfl, rfl, trivial⟩ ⟨rfl, trivial⟩ rfl rfl
      · intro j hj
        have hs := sumL_le (xss := xss) (i := j)
        have hs1 := sumL_le (xss := xss) (i := j + 1)
        have ht := fun h : j < xss.length => sumL_take h (dflt (.sl .u8))
        unfold sumL at hs hs1 ht hl
        refine stp ?_ ?_ ?_ ?_ ?_ ?_ ?_ ?_ ?_ ?_ ?_ ?_ ?_ ?_ ?_ ?_ <;> (first | exact Mk.mk | exact trivial | (repeat intro hq))
        · have hlt : j < xss.length := by simpa using hq
          have := ht hlt
          show (xss.take j).flatten.length + (xss.getD j (dflt (.sl .u8))).length ≤ maxLen
          unfold maxLen; omega
        · have hlt : j < xss.length := by simpa using hq
          refine ⟨j + 1, by omega, by omega, Wk_tmpl [(7000, 34000)] ⟨rfl, rfl, rfl, rfl, trivial⟩ ⟨?_, trivial⟩ rfl rfl⟩
          refine congrArg (fun r => some (Ob.rows 5 .u8 false r)) ?_
          exact (flatT hlt _).symm
        · have e : j = xss.length := by simp at hq; omega
          rw [e, List.take_length]
set_option maxHeartbeats 4000000 in
set_option maxRecDepth 20000 in
theorem ido_ok (t : List UInt8) (e : Ed) (hl : t.length ≤ 400) (hp : e.2.2.length ≤ 400) (h1 : 0 ≤ e.1 ∧ e.1 ≤ t.length) (h2 : 0 ≤ e.2.1 ∧ e.1 + e.2.1 ≤ t.length) : FnC Tryz.prog 123 [aEd e, aBy t] [aEd0, aX] (.one (oBy (doE t e))) := by
  have e1 : List.flatten [cut none (some e.1) t, e.2.2, cut (some (e.1 + e.2.1)) none t] = doE t e := by
    simp [doE, cut]
  have e2 : sumL [cut none (some e.1) t, e.2.2, cut (some (e.1 + e.2.1)) none t] ≤ 1000000 := by
    rw [sumL, e1]
    simp only [doE, List.length_append, List.length_take, List.length_drop]; omega
  rw [← e1]
  refine FnC_of (fn := Tryz.f123) Tryz.func123 rfl rfl rfl ?_
  have zE1 := fun (zh : _ ∧ _) => concat_ok [cut none (some e.1) t, e.2.2, cut (some (e.1 + e.2.1)) none t] zh.1 zh.2
  refine stp ?_ ?_ ?_ ?_ ?_ ?_ ?_ ?_ ?_ ?_ ?_ ?_ ?_ ?_ ?_ ?_ <;> (first | exact Mk.mk | exact trivial | (repeat intro hq))
end Go.LX

set_option linter.unusedVariables false
set_option linter.unusedSimpArgs false
namespace Go.LX
open Go.Proofs
attribute [local irreducible] W WO OpW RW EndQ
end Go.LX

