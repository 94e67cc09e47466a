/- A part of the proof of the statement in the row text. -/
import Derived.Test.YtojaiockbpcilaaDoorLvO3
import Derived.Test.YtojaiockbpcilaaDoorLxStpW
set_option linter.unusedVariables false
set_option linter.unusedSimpArgs false
namespace Go.LX
open Go.Proofs
attribute [local irreducible] W WO OpW RW EndQ
/-- The first i of xs, and what stood behind. -/
def part (xs : List UInt8) (i : Nat) : List UInt8 := xs.take i ++ List.replicate (xs.length - i) 0
theorem part_len {xs : List UInt8} {i : Nat} (h : i ≤ xs.length) : (part xs i).length = xs.length := by
  simp [part]; omega
theorem part_set {xs : List UInt8} {i : Nat} (h : i < xs.length) : (part xs i).set i (xs.getD i 0) = part xs (i + 1) := by
  unfold part
  rw [List.set_append_right _ _ (by simp; omega)]
  obtain ⟨k, hk⟩ : ∃ k, xs.length - i = k + 1 := ⟨xs.length - i - 1, by omega⟩
  rw [hk, show i - (xs.take i).length = 0 by simp; omega, List.replicate_succ, List.set_cons_zero, List.take_add_one, show xs.length - (i + 1) = k by omega]
  simp only [List.getElem?_eq_getElem h, Option.toList_some, List.append_assoc, List.singleton_append, List.getD_eq_getElem?_getD, Option.getD_some]
set_option maxHeartbeats 4000000 in
set_option maxRecDepth 20000 in
theorem tobytes_ok (xs : List UInt8) (hl : xs.length ≤ 16777216) : FnC Tryd.prog 101 [aBy xs] [aX] (.one (oBy xs)) := by
  refine FnC_of (fn := Tryd.f101) Tryd.func101 rfl rfl rfl ?_
  refine stp ?_ ?_ ?_ ?_ ?_ ?_ ?_ ?_ ?_ ?_ ?_ ?_ ?_ ?_ ?_ ?_ <;> (first | exact Mk.mk | exact trivial | (repeat intro hq))
  refine W_loopT (fun i : Nat => St.tmpl 22 [(0, .one (.d (.sl .u8) xs)), (3, .one (.rf 8000 .ar)), (4, .one (.d (.i .i64) (i : Int)))] [(8000, .rows 5 .u8 false (part xs i))]) (fun i => i ≤ xs.length) (fun i => xs.length - i) 0 (Nat.zero_le _) ?_ ?_
  · refine Wk_tmpl [] ⟨rfl, rfl, rfl, trivial⟩ ⟨?_, trivial⟩ rfl rfl
    refine congrArg (fun r => some (Ob.rows 5 Ty.u8 false r)) ?_
    simp [part]
  · intro i hi
    have hpl := part_len hi
    refine stp ?_ ?_ ?_ ?_ ?_ ?_ ?_ ?_ ?_ ?_ ?_ ?_ ?_ ?_ ?_ ?_ <;> (first | exact Mk.mk | exact trivial | (repeat intro hq))
    all_goals first
      | (have hlt : i < xs.length := by simpa using hq
         exact ⟨i + 1, by omega, by omega, Wk_tmpl [] ⟨rfl, rfl, rfl, trivial⟩ ⟨congrArg (fun r => some (Ob.rows 5 Ty.u8 false r)) (part_set hlt), trivial⟩ rfl rfl⟩)
      | (have : i = xs.length := by simp at hq; omega
         simp [part, this]; done)
      | (rw [hpl]; simpa using hq)
set_option maxHeartbeats 4000000 in
set_option maxRecDepth 20000 in
theorem eqbytes_ok (xs ys : List UInt8) (hl : xs.length ≤ 16777216) (h : xs = ys) : FnC Tryd.prog 105 [aBy xs, aBy ys] [aX, aX] (.one (sB true)) := by
  subst h
  refine FnC_of (fn := Tryd.f105) Tryd.func105 rfl rfl rfl ?_
  refine stp ?_ ?_ ?_ ?_ ?_ ?_ ?_ ?_ ?_ ?_ ?_ ?_ ?_ ?_ ?_ ?_ <;> (first | exact Mk.mk | exact trivial | (repeat intro hq))
  refine W_loopT (fun i : Nat => St.tmpl 26 [(0, .one (.d (.sl .u8) xs)), (1, .one (.d (.sl .u8) xs)), (5, .one (.d (.i .i64) (i : Int)))] []) (fun i => i ≤ xs.length) (fun i => xs.length - i) 0 (Nat.zero_le _) ?_ ?_
  · exact Wk_tmpl [] ⟨rfl, rfl, rfl, trivial⟩ trivial rfl rfl
  · intro i hi
    refine stp ?_ ?_ ?_ ?_ ?_ ?_ ?_ ?_ ?_ ?_ ?_ ?_ ?_ ?_ ?_ ?_ <;> (first | exact Mk.mk | exact trivial | (repeat intro hq))
    have hlt : i < xs.length := by simp_all
    exact ⟨i + 1, by omega, by omega, Wk_tmpl [] ⟨rfl, rfl, rfl, trivial⟩ trivial rfl rfl⟩
abbrev aReq (k s a b c : Int) (t : List UInt8) : SA := .ag [sI k, sI s, sI a, sI b, sI c, sBy t]
abbrev aReq0 : SA := .ag [.any, .any, .any, .any, .any, .any]
abbrev aRep (k a b : Int) (t : List UInt8) : SA := .ag [sI k, sI a, sI b, sBy t]
abbrev aRep0 : SA := .ag [.any, .any, .any, .any]
set_option maxHeartbeats 4000000 in
set_option maxRecDepth 20000 in
theorem toreq_ok (k s a b c : Int) (t : List UInt8) (hl : t.length ≤ 16777216) : FnC Tryd.prog 78 [aReq k s a b c t] [aReq0] (.ag [sI k, sI s, sI a, sI b, sI c, oBy t]) := by
  refine FnC_of (fn := Tryd.f78) Tryd.func78 rfl rfl rfl ?_
  have zD1 := fun (zh : True) => tobytes_ok t hl
  refine stp ?_ ?_ ?_ ?_ ?_ ?_ ?_ ?_ ?_ ?_ ?_ ?_ ?_ ?_ ?_ ?_ <;> (first | exact Mk.mk | exact trivial | (repeat intro hq))
set_option maxHeartbeats 4000000 in
set_option maxRecDepth 20000 in
theorem torep_ok (k a b : Int) (t : List UInt8) (hl : t.length ≤ 16777216) : FnC Tryd.prog 79 [aRep k a b t] [aRep0] (.ag [sI k, sI a, sI b, oBy t]) := by
  refine FnC_of (fn := Tryd.f79) Tryd.func79 rfl rfl rfl ?_
  have zD1 := fun (zh : True) => tobytes_ok t hl
  refine stp ?_ ?_ ?_ ?_ ?_ ?_ ?_ ?_ ?_ ?_ ?_ ?_ ?_ ?_ ?_ ?_ <;> (first | exact Mk.mk | exact trivial | (repeat intro hq))
set_option maxHeartbeats 4000000 in
set_option maxRecDepth 20000 in
theorem toout_ok (o : OutR) (h1 : o.rt.length ≤ 16777216) (h2 : o.pt.length ≤ 16777216) : FnC Tryd.prog 43 [aOut o] [aOut0] (.ag [sI o.a0, sI o.a1, sI o.r0, sI o.r1, sI o.r2, sI o.r3, sI o.r4, oBy o.rt, sI o.a3, sI o.p0, sI o.p1, sI o.p2, oBy o.pt]) := by
  refine FnC_of (fn := Tryd.f43) Tryd.func43 rfl rfl rfl ?_
  have zD1 := fun {z0} {z1} {z2} {z3} {z4} zh => toreq_ok z0 z1 z2 z3 z4 o.rt zh
  have zD2 := fun {z0} {z1} {z2} zh => torep_ok z0 z1 z2 o.pt zh
  refine stp ?_ ?_ ?_ ?_ ?_ ?_ ?_ ?_ ?_ ?_ ?_ ?_ ?_ ?_ ?_ ?_ <;> (first | exact Mk.mk | exact trivial | (intros; exact h1; done) | (intros; exact h2; done) | (repeat intro hq))
set_option maxHeartbeats 4000000 in
set_option maxRecDepth 20000 in
theorem eqreq_ok (k s a b c : Int) (t : List UInt8) (hl : t.length ≤ 16777216) : FnC Tryd.prog 81 [aReq k s a b c t, aReq k s a b c t] [aReq0, aReq0] (.one (sB true)) := by
  refine FnC_of (fn := Tryd.f81) Tryd.func81 rfl rfl rfl ?_
  have zD1 := fun (zh : True) => eqbytes_ok t t hl rfl
  refine stp ?_ ?_ ?_ ?_ ?_ ?_ ?_ ?_ ?_ ?_ ?_ ?_ ?_ ?_ ?_ ?_ <;> (first | exact Mk.mk | exact trivial | (repeat intro hq))
set_option maxHeartbeats 4000000 in
set_option maxRecDepth 20000 in
theorem eqrep_ok (k a b : Int) (t : List UInt8) (hl : t.length ≤ 16777216) : FnC Tryd.prog 82 [aRep k a b t, aRep k a b t] [aRep0, aRep0] (.one (sB true)) := by
  refine FnC_of (fn := Tryd.f82) Tryd.func82 rfl rfl rfl ?_
  have zD1 := fun (zh : True) => eqbytes_ok t t hl rfl
  refine stp ?_ ?_ ?_ ?_ ?_ ?_ ?_ ?_ ?_ ?_ ?_ ?_ ?_ ?_ ?_ ?_ <;> (first | exact Mk.mk | exact trivial | (repeat intro hq))
set_option maxHeartbeats 4000000 in
set_option maxRecDepth 20000 in
theorem eqout_ok (o : OutR) (h1 : o.rt.length ≤ 16777216) (h2 : o.pt.length ≤ 16777216) : FnC Tryd.prog 45 [aOut o, aOut o] [aOut0, aOut0] (.one (sB true)) := by
  refine FnC_of (fn := Tryd.f45) Tryd.func45 rfl rfl rfl ?_
  have zD1 := fun {z0} {z1} {z2} {z3} {z4} zh => eqreq_ok z0 z1 z2 z3 z4 o.rt zh
  have zD2 := fun {z0} {z1} {z2} zh => eqrep_ok z0 z1 z2 o.pt zh
  refine stp ?_ ?_ ?_ ?_ ?_ ?_ ?_ ?_ ?_ ?_ ?_ ?_ ?_ ?_ ?_ ?_ <;> (first | exact Mk.mk | exact trivial | (intros; exact h1; done) | (intros; exact h2; done) | (repeat intro hq))
set_option maxHeartbeats 4000000 in
set_option maxRecDepth 20000 in
theorem szb_ok (xs : List UInt8) (n : Int) (hn : -1 ≤ n ∧ n ≤ 1048576) (hl : xs.length ≤ 9223372036854775807) : FnC Tryd.prog 100 [aBy xs, aI n] [aX, aX] (.one (sI (if n - xs.length < 0 then -1 else n - xs.length))) := by
  refine FnC_of (fn := Tryd.f100) Tryd.func100 rfl rfl rfl ?_
  refine stp ?_ ?_ ?_ ?_ ?_ ?_ ?_ ?_ ?_ ?_ ?_ ?_ ?_ ?_ ?_ ?_ <;> (first | exact Mk.mk | exact trivial | (repeat intro hq))
  all_goals first
    | (rw [if_pos (of_decide_eq_true hq)]; done)
    | (rw [if_neg (of_decide_eq_false hq)]; done)
end Go.LX
