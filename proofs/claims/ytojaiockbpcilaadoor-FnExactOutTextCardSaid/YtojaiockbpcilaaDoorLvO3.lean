/- A part of the proof of the statement in the row text. -/
import Derived.Test.YtojaiockbpcilaaDoorLvO2
import Derived.Test.YtojaiockbpcilaaDoorLxStpW
set_option linter.unusedVariables false
set_option linter.unusedSimpArgs false
namespace Go.LX
open Go.Proofs
attribute [local irreducible] W WO OpW RW EndQ
structure OutR where
  (a0 a1 r0 r1 r2 r3 r4 : Int)
  rt : List UInt8
  (a3 p0 p1 p2 : Int)
  pt : List UInt8
abbrev aOut (o : OutR) : SA := .ag [sI o.a0, sI o.a1, sI o.r0, sI o.r1, sI o.r2, sI o.r3, sI o.r4, sBy o.rt, sI o.a3, sI o.p0, sI o.p1, sI o.p2, sBy o.pt]
abbrev aOut0 : SA := .ag [.any, .any, .any, .any, .any, .any, .any, .any, .any, .any, .any, .any, .any]
def In64 (n : Int) : Prop := -9223372036854775808 ≤ n ∧ n ≤ 9223372036854775807
structure OutW (o : OutR) : Prop where
  a0 : In64 o.a0
  a1 : In64 o.a1
  p0 : In64 o.p0
  p1 : In64 o.p1
  p2 : In64 o.p2
def outL (o : OutR) : List UInt8 :=
  let s := Lib.itoa o.a0 ++ [58] ++ Lib.itoa o.a1 ++ [32] ++ Lib.itoa o.p0
  if o.p0 = 0 then s ++ [32] ++ Lib.itoa o.p1 ++ [32] ++ Lib.itoa o.p2 ++ [32] ++ hexL o.pt else s
set_option maxHeartbeats 4000000 in
set_option maxRecDepth 20000 in
theorem souttext_ok (o : OutR) (h : OutW o) (hl : o.pt.length ≤ 16777216) : FnC Tryd.prog 42 [aOut o] [aOut0] (.one (.d .st (outL o))) := by
  have n0 := num_ok o.a0 h.a0
  have n1 := num_ok o.a1 h.a1
  have n2 := num_ok o.p0 h.p0
  have n3 := num_ok o.p1 h.p1
  have n4 := num_ok o.p2 h.p2
  have hx := shex_ok o.pt hl
  have l0 := itoa_len h.a0
  have l1 := itoa_len h.a1
  have l2 := itoa_len h.p0
  have l3 := itoa_len h.p1
  have l4 := itoa_len h.p2
  have lh := hexL_len (xs := o.pt)
  refine FnC_of (fn := Tryd.f42) Tryd.func42 rfl rfl rfl ?_
  have zD1 := fun (zh : True) => n0
  have zD2 := fun (zh : True) => n1
  have zD3 := fun (zh : True) => n2
  have zD4 := fun (zh : True) => n3
  have zD5 := fun (zh : True) => n4
  have zD6 := fun (zh : True) => hx
  refine stp ?_ ?_ ?_ ?_ ?_ ?_ ?_ ?_ ?_ ?_ ?_ ?_ ?_ ?_ ?_ ?_ <;> (first | exact Mk.mk | exact trivial | (repeat intro hq))
  all_goals first
    | (have e := of_decide_eq_true hq
       simp [outL, e]; done)
    | (have e := of_decide_eq_false hq
       simp [outL, e]; done)
set_option maxHeartbeats 4000000 in
set_option maxRecDepth 20000 in
theorem iouttext0_ok (o : OutR) (h : OutW o) (hl : o.pt.length ≤ 16777216) : FnC Tryd.prog 80 [aOut o] [aOut0] (.one (.d .st (outL o))) := by
  have n0 := itoa_ok o.a0 h.a0
  have n1 := joined_ok [o.a1, o.p0] (by simp) (by simp only [List.mem_cons, List.not_mem_nil, or_false]; rintro x (rfl | rfl); exact h.a1; exact h.p0)
  have n2 := joined_ok [o.p1, o.p2] (by simp) (by simp only [List.mem_cons, List.not_mem_nil, or_false]; rintro x (rfl | rfl); exact h.p1; exact h.p2)
  have hx := ihex_ok o.pt hl
  have l0 := itoa_len h.a0
  have l1 : (joinI [o.a1, o.p0]).length ≤ 1000000000 := joinI_len (by simp) (by simp only [List.mem_cons, List.not_mem_nil, or_false]; rintro x (rfl | rfl); exact h.a1; exact h.p0)
  have l2 : (joinI [o.p1, o.p2]).length ≤ 1000000000 := joinI_len (by simp) (by simp only [List.mem_cons, List.not_mem_nil, or_false]; rintro x (rfl | rfl); exact h.p1; exact h.p2)
  have lh := hexL_len (xs := o.pt)
  have e1 : joinI [o.a1, o.p0] = Lib.itoa o.a1 ++ ([32] ++ Lib.itoa o.p0) := by simp [joinI, Lib.join_cons, Lib.joinTail]
  have e2 : joinI [o.p1, o.p2] = Lib.itoa o.p1 ++ ([32] ++ Lib.itoa o.p2) := by simp [joinI, Lib.join_cons, Lib.joinTail]
  generalize joinI [o.a1, o.p0] = j1 at *
  generalize joinI [o.p1, o.p2] = j2 at *
  refine FnC_of (fn := Tryd.f80) Tryd.func80 rfl rfl rfl ?_
  have zD1 := fun (zh : True) => n0
  have zE1 := fun (zh : True) => n1
  have zE2 := fun (zh : True) => n2
  have zD2 := fun (zh : True) => hx
  refine stp ?_ ?_ ?_ ?_ ?_ ?_ ?_ ?_ ?_ ?_ ?_ ?_ ?_ ?_ ?_ ?_ <;> (first | exact Mk.mk | exact trivial | (repeat intro hq))
  all_goals first
    | (have e : o.p0 = 0 := by simpa using hq
       simp [outL, e, e1, e2]; done)
    | (have e : ¬ o.p0 = 0 := by simpa using hq
       simp [outL, e, e1]; done)
end Go.LX
