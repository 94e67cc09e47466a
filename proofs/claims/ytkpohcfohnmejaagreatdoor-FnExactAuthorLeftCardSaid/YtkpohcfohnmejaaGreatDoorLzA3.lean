/- A part of the proof of the statement in the row text. -/
import Derived.Test.YtkpohcfohnmejaaGreatDoorLzV6
import Derived.Test.YtkpohcfohnmejaaGreatDoorLzX2
import Derived.Test.YtkpohcfohnmejaaGreatDoorLxStpL
import Derived.Test.YtkpohcfohnmejaaGreatDoorLzE2
import Derived.Test.YtkpohcfohnmejaaGreatDoorLzG5
set_option linter.unusedVariables false
set_option linter.unusedSimpArgs false
namespace Go.LX
open Go.Proofs
attribute [local irreducible] W WO OpW RW EndQ
abbrev Rq : Type := Int × Int × Int × Int × Int × List UInt8
abbrev TRq : Ty := .pr (.i .i64) (.pr (.i .i64) (.pr (.i .i64) (.pr (.i .i64) (.pr (.i .i64) (.sl .u8)))))
abbrev aRq (r : Rq) : SA := .ag [sI r.1, sI r.2.1, sI r.2.2.1, sI r.2.2.2.1, sI r.2.2.2.2.1, sBy r.2.2.2.2.2]
abbrev aRq0 : SA := .ag [.any, .any, .any, .any, .any, .any]
def usedN (k : Int) : Int := if k = 3 ∨ k = 7 ∨ k = 8 ∨ k = 9 then 1 else if k = 4 ∨ k = 5 ∨ k = 6 ∨ k = 10 ∨ k = 11 ∨ k = 14 then 2 else if k = 12 ∨ k = 13 then 3 else 0
def wdB (n : Int) : Bool := decide (0 ≤ n) && decide (n ≤ 65535)
def ssB (n : Int) : Bool := decide (1 ≤ n) && decide (n ≤ 8)
def numB (k i n : Int) : Bool := wdB n && !(decide (usedN k ≤ i) && !decide (n = 0))
def txtB (k l : Int) : Bool := if k = 3 ∨ k = 5 then true else if k = 7 ∨ k = 8 then decide (0 < l) else decide (l = 0)
noncomputable def putB (t : List UInt8) : Bool := decide ((t.length : Int) ≤ 100) && tokM t
noncomputable def reqB (r : Rq) : Bool := (decide (1 ≤ r.1) && decide (r.1 ≤ 16)) && (ssB r.2.1 && (putB r.2.2.2.2.2 && (numB r.1 0 r.2.2.1 && (numB r.1 1 r.2.2.2.1 && (numB r.1 2 r.2.2.2.2.1 && txtB r.1 r.2.2.2.2.2.length)))))
theorem usedN_in {k : Int} : 0 ≤ usedN k ∧ usedN k ≤ 3 := by unfold usedN; split <;> (try split) <;> (try split) <;> omega
set_option maxHeartbeats 4000000 in
set_option maxRecDepth 20000 in
theorem issess_ok (n : Int) : FnC Tryz.prog 139 [aI n] [aX] (.one (sB (ssB n))) := by
  refine FnC_of (fn := Tryz.f139) Tryz.func139 rfl rfl rfl ?_
  have zD1 := fun {z0} {z1} {z2} (zh : True) => in_ok z0 z1 z2
  refine stp ?_ ?_ ?_ ?_ ?_ ?_ ?_ ?_ ?_ ?_ ?_ ?_ ?_ ?_ ?_ ?_ <;> (first | exact Mk.mk | exact trivial | (repeat intro hq))
end Go.LX

set_option linter.unusedVariables false
set_option linter.unusedSimpArgs false
namespace Go.LX
open Go.Proofs
attribute [local irreducible] W WO OpW RW EndQ
def isB (k : Int) (xs : List Int) : Bool := xs.any fun x => decide (x = k)
theorem kinds (k : Int) : ((k = 3 ∨ k = 7 ∨ k = 8 ∨ k = 9) ∨ (k = 4 ∨ k = 5 ∨ k = 6 ∨ k = 10 ∨ k = 11 ∨ k = 14) ∨ (k = 12 ∨ k = 13)) ∨ (k ≠ 3 ∧ k ≠ 7 ∧ k ≠ 8 ∧ k ≠ 9) ∧ (k ≠ 4 ∧ k ≠ 5 ∧ k ≠ 6 ∧ k ≠ 10 ∧ k ≠ 11 ∧ k ≠ 14) ∧ k ≠ 12 ∧ k ≠ 13 := by omega
theorem used0 (k : Int) : decide (usedN k ≤ 0) = !(isB k [3, 7, 8, 9] || (isB k [4, 5, 6, 10, 11, 14] || isB k [12, 13])) := by
  rcases kinds k with ((rfl | rfl | rfl | rfl) | (rfl | rfl | rfl | rfl | rfl | rfl) | (rfl | rfl)) | ⟨⟨h1, h2, h3, h4⟩, ⟨h5, h6, h7, h8, h9, h10⟩, h11, h12⟩
  all_goals first | rfl | decide | simp [usedN, isB, *, Ne.symm]
theorem used1 (k : Int) : decide (usedN k ≤ 1) = !(isB k [4, 5, 6, 10, 11, 14] || isB k [12, 13]) := by
  rcases kinds k with ((rfl | rfl | rfl | rfl) | (rfl | rfl | rfl | rfl | rfl | rfl) | (rfl | rfl)) | ⟨⟨h1, h2, h3, h4⟩, ⟨h5, h6, h7, h8, h9, h10⟩, h11, h12⟩
  all_goals first | rfl | decide | simp [usedN, isB, *, Ne.symm]
theorem used2 (k : Int) : decide (usedN k ≤ 2) = !(isB k [12, 13]) := by
  rcases kinds k with ((rfl | rfl | rfl | rfl) | (rfl | rfl | rfl | rfl | rfl | rfl) | (rfl | rfl)) | ⟨⟨h1, h2, h3, h4⟩, ⟨h5, h6, h7, h8, h9, h10⟩, h11, h12⟩
  all_goals first | rfl | decide | simp [usedN, isB, *, Ne.symm]
theorem txt_is (k l : Int) : txtB k l = if isB k [3, 5] = true then true else if isB k [7, 8] = true then decide (0 < l) else decide (l = 0) := by
  rcases (show (k = 3 ∨ k = 5) ∨ (k = 7 ∨ k = 8) ∨ (k ≠ 3 ∧ k ≠ 5 ∧ k ≠ 7 ∧ k ≠ 8) by omega) with (rfl | rfl) | (rfl | rfl) | ⟨h1, h2, h3, h4⟩
  all_goals first | rfl | simp [txtB, isB, *, Ne.symm]
theorem isB_dis (k : Int) : (isB k [12, 13] = true → isB k [4, 5, 6, 10, 11, 14] = false ∧ isB k [3, 7, 8, 9] = false) ∧ (isB k [4, 5, 6, 10, 11, 14] = true → isB k [3, 7, 8, 9] = false) ∧ (isB k [7, 8] = true → isB k [3, 5] = false) ∧ True ∧ True := by
  simp only [isB, List.any_cons, List.any_nil, Bool.or_false, Bool.or_eq_true, decide_eq_true_eq, Bool.or_eq_false_iff, decide_eq_false_iff_not]
  refine ⟨fun h => ?_, fun h => ?_, fun h => ?_, trivial, trivial⟩ <;> omega
end Go.LX

set_option linter.unusedVariables false
set_option linter.unusedSimpArgs false
namespace Go.LX
open Go.Proofs
attribute [local irreducible] W WO OpW RW EndQ
abbrev Ry : Type := Int × Int × Int × List UInt8
abbrev TRy : Ty := .pr (.i .i64) (.pr (.i .i64) (.pr (.i .i64) (.sl .u8)))
abbrev aRy (r : Ry) : SA := .ag [sI r.1, sI r.2.1, sI r.2.2.1, sBy r.2.2.2]
abbrev aRy0 : SA := .ag [.any, .any, .any, .any]
noncomputable def repB (r : Ry) : Bool := if r.1 = 0 then wdB r.2.1 && (wdB r.2.2.1 && tokM r.2.2.2) else (decide (0 ≤ r.1) && decide (r.1 ≤ 10)) && (decide (r.2.1 = 0) && (decide (r.2.2.1 = 0) && decide ((r.2.2.2.length : Int) = 0)))
abbrev Ev : Type := Int × Int × Int × List UInt8
abbrev TEv : Ty := .pr (.i .i64) (.pr (.i .i64) (.pr (.i .i64) (.sl .u8)))
abbrev aEv (r : Ev) : SA := .ag [sI r.1, sI r.2.1, sI r.2.2.1, sBy r.2.2.2]
abbrev aEvs (xs : List Ev) : SA := .c (.d (.sl TEv) xs)
def evB (e : Ev) : Bool := if e.1 = 1 then decide ((e.2.2.2.length : Int) ≤ 1000) && (decide (e.2.1 = 0) && decide (e.2.2.1 = 0)) else if e.1 = 2 then ssB e.2.1 && (decide (e.2.2.1 = 0) && decide ((e.2.2.2.length : Int) = 0)) else if e.1 = 3 then (decide (1 ≤ e.2.2.1) && decide (e.2.2.1 ≤ 1000)) && (decide (e.2.1 = 0) && decide ((e.2.2.2.length : Int) = 0)) else false
set_option maxHeartbeats 4000000 in
set_option maxRecDepth 20000 in
theorem sess10_ok (n : Int) : FnC Tryz.prog 85 [aI n] [aX] (.one (sB (ssB n))) := by
  refine FnC_of (fn := Tryz.f85) Tryz.func85 rfl rfl rfl ?_
  refine stp ?_ ?_ ?_ ?_ ?_ ?_ ?_ ?_ ?_ ?_ ?_ ?_ ?_ ?_ ?_ ?_ <;> (first | exact Mk.mk | exact trivial | (repeat intro hq))
  all_goals (unfold ssB; rw [hq]; rfl)
end Go.LX

set_option linter.unusedVariables false
set_option linter.unusedSimpArgs false
namespace Go.LX
open Go.Proofs
attribute [local irreducible] W WO OpW RW EndQ
abbrev Le : Type := Int × Int × Int × Int
abbrev TLe : Ty := .pr (.i .i64) (.pr (.i .i64) (.pr (.i .i64) (.i .i64)))
abbrev aLe (x : Le) : SA := .ag [sI x.1, sI x.2.1, sI x.2.2.1, sI x.2.2.2]
abbrev aLe0 : SA := .ag [.any, .any, .any, .any]
abbrev aLes (xs : List Le) : SA := .c (.d (.sl TLe) xs)
def cmpI (x y : Int) : Int := if x < y then -1 else if y < x then 1 else 0
def orL : List Int → Int
  | [] => 0
  | x :: xs => if x ≠ 0 then x else orL xs
def cmpL (a b : Le) : Int := orL [cmpI a.1 b.1, cmpI a.2.1 b.2.1, cmpI a.2.2.1 b.2.2.1]
theorem cmpL_lt {a b : Le} : decide (cmpL a b < 0) = if a.1 ≠ b.1 then decide (a.1 < b.1) else if a.2.1 ≠ b.2.1 then decide (a.2.1 < b.2.1) else decide (a.2.2.1 < b.2.2.1) := by
  simp only [cmpL, orL, cmpI]
  repeat' split
  all_goals first
    | omega
    | (simp; omega)
    | simp_all
set_option maxHeartbeats 4000000 in
set_option maxRecDepth 20000 in
theorem isnan_ok (x : Int) : FnC Tryz.prog 173 [aI x] [aX] (.one (sB false)) := by
  refine FnC_of (fn := Tryz.f173) Tryz.func173 rfl rfl rfl ?_
  refine stp ?_ ?_ ?_ ?_ ?_ ?_ ?_ ?_ ?_ ?_ ?_ ?_ ?_ ?_ ?_ ?_ <;> (first | exact Mk.mk | exact trivial | (repeat intro hq))
  all_goals simp
set_option maxHeartbeats 4000000 in
set_option maxRecDepth 20000 in
theorem cmpint_ok (x y : Int) : FnC Tryz.prog 171 [aI x, aI y] [aX, aX] (.one (sI (cmpI x y))) := by
  refine FnC_of (fn := Tryz.f171) Tryz.func171 rfl rfl rfl ?_
  have zD1 := fun {z0} (zh : True) => isnan_ok z0
  refine stp ?_ ?_ ?_ ?_ ?_ ?_ ?_ ?_ ?_ ?_ ?_ ?_ ?_ ?_ ?_ ?_ <;> (first | exact Mk.mk | exact trivial | (repeat intro hq))
  all_goals (show (_ : Int) = _; simp only [decide_eq_true_eq, decide_eq_false_iff_not] at *; unfold cmpI; simp [*])
set_option maxHeartbeats 4000000 in
set_option maxRecDepth 20000 in
theorem cmpor_ok (xs : List Int) (hl : xs.length ≤ 1000) : FnC Tryz.prog 170 [.c (.d (.sl (.i .i64)) xs)] [aX] (.one (sI (orL xs))) := by
  refine FnC_of (fn := Tryz.f170) Tryz.func170 rfl rfl rfl ?_
  refine stp ?_ ?_ ?_ ?_ ?_ ?_ ?_ ?_ ?_ ?_ ?_ ?_ ?_ ?_ ?_ ?_ <;> (first | exact Mk.mk | exact trivial | (repeat intro hq))
  refine W_loopT (fun i : Nat => St.tmpl 18 [(3, .one (.d (.i .i64) 0)), (6, .one (.d (.sl (.i .i64)) xs)), (7, .one (.d (.i .i64) (xs.length : Nat))), (8, .one (.d (.i .i64) (i : Int)))] []) (fun i => i ≤ xs.length ∧ orL xs = orL (xs.drop i)) (fun i => xs.length - i) 0 ⟨Nat.zero_le _, rfl⟩ ?_ ?_
  · exact Wk_tmpl [] ⟨rfl, rfl, rfl, rfl, trivial⟩ trivial rfl rfl
  · rintro i ⟨hi, hm⟩
    have hd : i < xs.length → orL (xs.drop i) = if xs.getD (i : Int).toNat (dflt (.i .i64)) ≠ 0 then xs.getD (i : Int).toNat (dflt (.i .i64)) else orL (xs.drop (i + 1)) := fun h => by
      show orL (xs.drop i) = if xs.getD i (0 : Int) ≠ 0 then xs.getD i (0 : Int) else orL (xs.drop (i + 1))
      rw [List.drop_eq_getElem_cons h, orL, List.getD_eq_getElem?_getD, List.getElem?_eq_getElem h]
      rfl
    refine stp ?_ ?_ ?_ ?_ ?_ ?_ ?_ ?_ ?_ ?_ ?_ ?_ ?_ ?_ ?_ ?_ <;> (first | exact Mk.mk | exact trivial | (repeat intro hq))
    · rename_i q1
      have hlt : i < xs.length := by have := of_decide_eq_true q1; omega
      rw [hm, hd hlt, if_pos (by simpa using hq)]
    · rename_i q1
      have hlt : i < xs.length := by have := of_decide_eq_true q1; omega
      refine ⟨i + 1, by omega, ⟨by omega, ?_⟩, Wk_tmpl [] ⟨rfl, rfl, rfl, rfl, trivial⟩ trivial rfl rfl⟩
      rw [hm, hd hlt, if_neg (by simpa using hq)]
    · have : ¬ (i : Int) < (xs.length : Int) := of_decide_eq_false hq
      rw [hm, List.drop_of_length_le (by omega)]; rfl
set_option maxHeartbeats 4000000 in
set_option maxRecDepth 20000 in
theorem cmple_ok (a b : Le) : FnC Tryz.prog 164 [aLe a, aLe b] [aLe0, aLe0] (.one (sI (cmpL a b))) := by
  have k1 := cmpor_ok [cmpI a.1 b.1, cmpI a.2.1 b.2.1, cmpI a.2.2.1 b.2.2.1] (by simp)
  refine FnC_of (fn := Tryz.f164) Tryz.func164 rfl rfl rfl ?_
  have zD1 := fun {z0} {z1} (zh : True) => cmpint_ok z0 z1
  have zE1 := fun (zh : True) => k1
  refine stp ?_ ?_ ?_ ?_ ?_ ?_ ?_ ?_ ?_ ?_ ?_ ?_ ?_ ?_ ?_ ?_ <;> (first | exact Mk.mk | exact trivial | (repeat intro hq))
def clkB (n : Int) : Bool := decide (0 ≤ n) && decide (n ≤ 1000)
def leB (l : Le) : Bool := (decide (0 ≤ l.1) && decide (l.1 ≤ l.2.1)) && (decide (l.2.1 ≤ 400) && (ssB l.2.2.1 && (decide (1 ≤ l.2.2.2) && decide (l.2.2.2 ≤ 1000))))
set_option maxHeartbeats 4000000 in
set_option maxRecDepth 20000 in
theorem isclock_ok (n : Int) : FnC Tryz.prog 96 [aI n] [aX] (.one (sB (clkB n))) := by
  refine FnC_of (fn := Tryz.f96) Tryz.func96 rfl rfl rfl ?_
  have zD1 := fun {z0} {z1} {z2} (zh : True) => in_ok z0 z1 z2
  refine stp ?_ ?_ ?_ ?_ ?_ ?_ ?_ ?_ ?_ ?_ ?_ ?_ ?_ ?_ ?_ ?_ <;> (first | exact Mk.mk | exact trivial | (repeat intro hq))
set_option maxHeartbeats 4000000 in
set_option maxRecDepth 20000 in
theorem islease_ok (l : Le) : FnC Tryz.prog 163 [aLe l] [aLe0] (.one (sB (leB l))) := by
  unfold leB
  refine FnC_of (fn := Tryz.f163) Tryz.func163 rfl rfl rfl ?_
  have zD1 := fun {z0} {z1} {z2} (zh : True) => in_ok z0 z1 z2
  have zD2 := fun {z0} (zh : True) => issess_ok z0
  refine stp ?_ ?_ ?_ ?_ ?_ ?_ ?_ ?_ ?_ ?_ ?_ ?_ ?_ ?_ ?_ ?_ <;> (first | exact Mk.mk | exact trivial | (repeat intro hq))
  all_goals first
    | ((try simp only [cond_true] at *); simp only [Bool.and_true, Bool.true_and, Bool.and_false, Bool.false_and, *]; done)
    | ((try simp only [cond_true] at *); simp [*]; done)
set_option maxHeartbeats 4000000 in
set_option maxRecDepth 20000 in
theorem isactive_ok (l : Le) (n : Int) : FnC Tryz.prog 145 [aLe l, aI n] [aLe0, aX] (.one (sB (decide (n < l.2.2.2)))) := by
  refine FnC_of (fn := Tryz.f145) Tryz.func145 rfl rfl rfl ?_
  refine stp ?_ ?_ ?_ ?_ ?_ ?_ ?_ ?_ ?_ ?_ ?_ ?_ ?_ ?_ ?_ ?_ <;> (first | exact Mk.mk | exact trivial | (repeat intro hq))
set_option maxHeartbeats 4000000 in
set_option maxRecDepth 20000 in
theorem l07clock_ok (n : Int) : FnC Tryz.prog 83 [aI n] [aX] (.one (sB (clkB n))) := by
  refine FnC_of (fn := Tryz.f83) Tryz.func83 rfl rfl rfl ?_
  refine stp ?_ ?_ ?_ ?_ ?_ ?_ ?_ ?_ ?_ ?_ ?_ ?_ ?_ ?_ ?_ ?_ <;> (first | exact Mk.mk | exact trivial | (repeat intro hq))
  all_goals (unfold clkB; rw [hq]; rfl)
set_option maxHeartbeats 4000000 in
set_option maxRecDepth 20000 in
theorem l07right_ok (l : Le) : FnC Tryz.prog 128 [aLe l] [aLe0] (.one (sB (leB l))) := by
  unfold leB ssB
  refine FnC_of (fn := Tryz.f128) Tryz.func128 rfl rfl rfl ?_
  refine stp ?_ ?_ ?_ ?_ ?_ ?_ ?_ ?_ ?_ ?_ ?_ ?_ ?_ ?_ ?_ ?_ <;> (first | exact Mk.mk | exact trivial | (repeat intro hq))
  all_goals first
    | ((try simp only [cond_true] at *); simp only [Bool.and_true, Bool.true_and, Bool.and_false, Bool.false_and, *]; done)
    | ((try simp only [cond_true] at *); simp [*]; done)
set_option maxHeartbeats 4000000 in
set_option maxRecDepth 20000 in
theorem l07less_ok (a b : Le) : FnC Tryz.prog 129 [aLe a, aLe b] [aLe0, aLe0] (.one (sB (decide (cmpL a b < 0)))) := by
  rw [cmpL_lt]
  refine FnC_of (fn := Tryz.f129) Tryz.func129 rfl rfl rfl ?_
  refine stp ?_ ?_ ?_ ?_ ?_ ?_ ?_ ?_ ?_ ?_ ?_ ?_ ?_ ?_ ?_ ?_ <;> (first | exact Mk.mk | exact trivial | (repeat intro hq))
  all_goals first
    | ((try simp only [cond_true] at *); simp_all; done)
def meetB (a b : Le) : Bool := decide (a.1 < b.2.1) && (decide (b.1 < a.2.1) && (decide (a.1 < a.2.1) && decide (b.1 < b.2.1)))
theorem meet_max {a b : Le} : meetB a b = decide (max a.1 b.1 < min a.2.1 b.2.1) := by
  rw [Bool.eq_iff_iff]
  simp only [meetB, Bool.and_eq_true, decide_eq_true_eq]
  omega
set_option maxHeartbeats 4000000 in
set_option maxRecDepth 20000 in
theorem l07meet_ok (a b : Le) : FnC Tryz.prog 90 [aLe a, aLe b] [aLe0, aLe0] (.one (sB (meetB a b))) := by
  unfold meetB
  refine FnC_of (fn := Tryz.f90) Tryz.func90 rfl rfl rfl ?_
  refine stp ?_ ?_ ?_ ?_ ?_ ?_ ?_ ?_ ?_ ?_ ?_ ?_ ?_ ?_ ?_ ?_ <;> (first | exact Mk.mk | exact trivial | (repeat intro hq))
  all_goals first
    | ((try simp only [cond_true] at *); simp only [Bool.and_true, Bool.true_and, Bool.and_false, Bool.false_and, *]; done)
    | ((try simp only [cond_true] at *); simp [*]; done)
end Go.LX

set_option linter.unusedVariables false
set_option linter.unusedSimpArgs false
namespace Go.LX
open Go.Proofs
attribute [local irreducible] W WO OpW RW EndQ
theorem all_stop {p : Nat → Bool} {n i : Nat} (h : i < n) (hp : p i = false) : (List.range n).all p = false := by
  rw [List.all_eq_false]
  exact ⟨i, List.mem_range.2 h, by rw [hp]; simp⟩
theorem all_go {p : Nat → Bool} {n : Nat} (h : ∀ j, j < n → p j = true) : (List.range n).all p = true := by
  rw [List.all_eq_true]
  exact fun j hj => h j (List.mem_range.1 hj)
theorem all_more {p : Nat → Bool} {i : Nat} (h : ∀ j, j < i → p j = true) (hi : p i = true) : ∀ j, j < i + 1 → p j = true := fun j hj => by
  rcases Nat.lt_succ_iff_lt_or_eq.mp hj with h1 | rfl
  · exact h j h1
  · exact hi
theorem all_at {α : Type} {p : α → Bool} {xs : List α} (d : α) : xs.all p = (List.range xs.length).all fun i => p (xs.getD i d) := by
  rw [Bool.eq_iff_iff, List.all_eq_true, List.all_eq_true]
  constructor
  · intro h i hi
    have hi := List.mem_range.1 hi
    simp only [List.getD_eq_getElem?_getD, List.getElem?_eq_getElem hi]
    exact h _ (List.getElem_mem hi)
  · intro h x hx
    obtain ⟨i, hi, rfl⟩ := List.getElem_of_mem hx
    have := h i (List.mem_range.2 hi)
    rw [List.getD_eq_getElem?_getD, List.getElem?_eq_getElem hi] at this
    exact this
def okL (ls : List Le) (i : Nat) : Bool := leB (ls.getD i (dflt TLe)) && !(decide (0 < (i : Int)) && decide (0 ≤ cmpL (ls.getD (i - 1) (dflt TLe)) (ls.getD i (dflt TLe))))
def lesB (ls : List Le) : Bool := decide ((ls.length : Int) ≤ 12) && (List.range ls.length).all (okL ls)
theorem okL_int (ls : List Le) (i : Nat) : okL ls i = (leB (ls.getD (i : Int).toNat (dflt TLe)) && !(decide (0 < (i : Int)) && decide (0 ≤ cmpL (ls.getD ((i : Int) - 1).toNat (dflt TLe)) (ls.getD (i : Int).toNat (dflt TLe))))) := by
  rw [okL, show ((i : Int) - 1).toNat = i - 1 by omega]
  rfl
set_option maxHeartbeats 4000000 in
set_option maxRecDepth 20000 in
theorem areleases_ok (ls : List Le) (hl : ls.length ≤ 16777216) : FnC Tryz.prog 144 [aLes ls] [aX] (.one (sB (lesB ls))) := by
  unfold lesB
  refine FnC_of (fn := Tryz.f144) Tryz.func144 rfl rfl rfl ?_
  refine stp ?_ ?_ ?_ ?_ ?_ ?_ ?_ ?_ ?_ ?_ ?_ ?_ ?_ ?_ ?_ ?_ <;> (first | exact Mk.mk | exact trivial | (repeat intro hq))
  refine W_loopT (fun i : Nat => St.tmpl 33 [(0, .one (.d (.sl TLe) ls)), (5, .one (.d (.sl TLe) ls)), (6, .one (.d (.i .i64) (ls.length : Nat))), (7, .one (.d (.i .i64) (i : Int)))] []) (fun i => i ≤ ls.length ∧ ∀ j, j < i → okL ls j = true) (fun i => ls.length - i) 0 ⟨Nat.zero_le _, fun j h => absurd h (Nat.not_lt_zero _)⟩ ?_ ?_
  · exact Wk_tmpl [] ⟨rfl, rfl, rfl, rfl, trivial⟩ trivial rfl rfl
  · rintro i ⟨hi, hj⟩
    rcases Nat.lt_or_ge i ls.length with hlt | hge
    · have e := okL_int ls i
      skip
      have zD1 := fun {z0} (zh : True) => islease_ok z0
      have zD2 := fun {z0} {z1} (zh : True) => cmple_ok z0 z1
      refine stp ?_ ?_ ?_ ?_ ?_ ?_ ?_ ?_ ?_ ?_ ?_ ?_ ?_ ?_ ?_ ?_ <;> (first | exact Mk.mk | exact trivial | (repeat intro hq))
      all_goals
        generalize leB (ls.getD (i : Int).toNat (dflt TLe)) = b at *
        generalize cmpL (ls.getD ((i : Int) - 1).toNat (dflt TLe)) (ls.getD (i : Int).toNat (dflt TLe)) = c at *
      all_goals first
        | (refine ⟨i + 1, by omega, ⟨by omega, all_more hj ?_⟩, Wk_tmpl [] ⟨rfl, rfl, rfl, rfl, trivial⟩ trivial rfl rfl⟩; rw [e]; simp_all; done)
        | (rw [all_stop hlt ?_, Bool.and_false]; rw [e]; simp_all; done)
    · obtain rfl : i = ls.length := by omega
      refine stp ?_ ?_ ?_ ?_ ?_ ?_ ?_ ?_ ?_ ?_ ?_ ?_ ?_ ?_ ?_ ?_ <;> (first | exact Mk.mk | exact trivial | (repeat intro hq))
      rw [all_go hj, Bool.and_true]
set_option maxHeartbeats 4000000 in
set_option maxRecDepth 20000 in
theorem leasesok_ok (ls : List Le) (hl : ls.length ≤ 16777216) : FnC Tryz.prog 84 [aLes ls] [aX] (.one (sB (lesB ls))) := by
  unfold lesB
  refine FnC_of (fn := Tryz.f84) Tryz.func84 rfl rfl rfl ?_
  refine stp ?_ ?_ ?_ ?_ ?_ ?_ ?_ ?_ ?_ ?_ ?_ ?_ ?_ ?_ ?_ ?_ <;> (first | exact Mk.mk | exact trivial | (repeat intro hq))
  · simp only [decide_eq_true_eq] at hq
    rw [decide_eq_false (by omega), Bool.false_and]
  · simp only [decide_eq_false_iff_not] at hq
    rw [decide_eq_true (by omega), Bool.true_and]
    refine W_loopT (fun i : Nat => St.tmpl 36 [(0, .one (.d (.sl TLe) ls)), (3, .one (.d (.i .i64) (i : Int)))] []) (fun i => i ≤ ls.length ∧ ∀ j, j < i → okL ls j = true) (fun i => ls.length - i) 0 ⟨Nat.zero_le _, fun j h => absurd h (Nat.not_lt_zero _)⟩ ?_ ?_
    · exact Wk_tmpl [] ⟨rfl, rfl, trivial⟩ trivial rfl rfl
    · rintro i ⟨hi, hj⟩
      rcases Nat.lt_or_ge i ls.length with hlt | hge
      · have e := okL_int ls i
        rw [show (decide (0 ≤ cmpL (ls.getD ((i : Int) - 1).toNat (dflt TLe)) (ls.getD (i : Int).toNat (dflt TLe)))) = !decide (cmpL (ls.getD ((i : Int) - 1).toNat (dflt TLe)) (ls.getD (i : Int).toNat (dflt TLe)) < 0) by rw [← decide_not]; exact decide_eq_decide.2 (by omega)] at e
        skip
        have zD1 := fun {z0} (zh : True) => l07right_ok z0
        have zD2 := fun {z0} {z1} (zh : True) => l07less_ok z0 z1
        refine stp ?_ ?_ ?_ ?_ ?_ ?_ ?_ ?_ ?_ ?_ ?_ ?_ ?_ ?_ ?_ ?_ <;> (first | exact Mk.mk | exact trivial | (repeat intro hq))
        all_goals
          generalize leB (ls.getD (i : Int).toNat (dflt TLe)) = b at *
          generalize cmpL (ls.getD ((i : Int) - 1).toNat (dflt TLe)) (ls.getD (i : Int).toNat (dflt TLe)) = c at *
        all_goals first
          | (refine ⟨i + 1, by omega, ⟨by omega, all_more hj ?_⟩, Wk_tmpl [] ⟨rfl, rfl, trivial⟩ trivial rfl rfl⟩; rw [e]; simp_all; done)
          | (rw [all_stop hlt ?_]; rw [e]; simp_all; done)
      · obtain rfl : i = ls.length := by omega
        refine stp ?_ ?_ ?_ ?_ ?_ ?_ ?_ ?_ ?_ ?_ ?_ ?_ ?_ ?_ ?_ ?_ <;> (first | exact Mk.mk | exact trivial | (repeat intro hq))
        rw [all_go hj]
end Go.LX

set_option linter.unusedVariables false
set_option linter.unusedSimpArgs false
namespace Go.LX
open Go.Proofs
attribute [local irreducible] W WO OpW RW EndQ
set_option maxHeartbeats 4000000 in
set_option maxRecDepth 20000 in
theorem notsmall_ok (e : Ed) : FnC Tryz.prog 169 ([aEd e] ++ capA []) [aEd0] (.one (sB (!smE e))) := by
  refine FnC_of (fn := Tryz.f169) Tryz.func169 rfl rfl rfl ?_
  have zD1 := fun {z0} (zh : True) => issmall_ok z0
  refine stp ?_ ?_ ?_ ?_ ?_ ?_ ?_ ?_ ?_ ?_ ?_ ?_ ?_ ?_ ?_ ?_ <;> (first | exact Mk.mk | exact trivial | (repeat intro hq))
set_option maxHeartbeats 4000000 in
set_option maxRecDepth 20000 in
theorem indexE_ok (f : FuncId) (caps : List (Σ t : Ty, t.T)) (p : Ed → Bool) (hb : fnB Tryz.prog f = true) (xs : List Ed) (hF : ∀ e ∈ xs, FnC Tryz.prog f ([aEd e] ++ capA caps) ([aEd0] ++ caps.map fun _ => aX) (.one (sB (p e)))) (hl : xs.length ≤ 16777216) : FnC Tryz.prog 161 [aEs xs, .sem (clS f caps)] [aX, aX] (.one (sI (idxP p xs))) := by
  refine FnC_of (fn := Tryz.f161) Tryz.func161 rfl rfl rfl ?_
  refine stp ?_ ?_ ?_ ?_ ?_ ?_ ?_ ?_ ?_ ?_ ?_ ?_ ?_ ?_ ?_ ?_ <;> (first | exact Mk.mk | exact trivial | (repeat intro hq))
  refine W_loopT (fun i : Nat => St.tmpl 19 [(0, .one (.d (.sl TEd) xs)), (1, .one (.sem (clS f caps))), (7, .one (.d (.i .i64) (xs.length : Nat))), (8, .one (.d (.i .i64) (i : Int)))] []) (fun i => i ≤ xs.length ∧ (xs.take i).any p = false) (fun i => xs.length - i) 0 ⟨Nat.zero_le _, rfl⟩ ?_ ?_
  · exact Wk_tmpl [] ⟨rfl, rfl, rfl, rfl, trivial⟩ trivial rfl rfl
  · rintro i ⟨hi, ha⟩
    have hF2 : i < xs.length → FnC Tryz.prog f ([aEd (xs.getD (i : Int).toNat (dflt TEd))] ++ capA caps) ([aEd0] ++ caps.map fun _ => aX) (.one (sB (p (xs.getD (i : Int).toNat (dflt TEd))))) := fun h => hF _ (by
      show xs.getD i _ ∈ _
      rw [List.getD_eq_getElem?_getD, List.getElem?_eq_getElem h]
      exact List.getElem_mem h)
    rcases Nat.lt_or_ge i xs.length with hlt | hge
    · have zF := hF2 hlt
      skip
      refine stp ?_ ?_ ?_ ?_ ?_ ?_ ?_ ?_ ?_ ?_ ?_ ?_ ?_ ?_ ?_ ?_ <;> (first | exact Mk.mk | exact trivial | (repeat intro hq))
      refine callV false zF rfl rfl rfl hb rfl ?_ rfl rfl ?_
      · repeat' (first | exact trivial | refine And.intro ?_ ?_ | rfl)
      refine stp ?_ ?_ ?_ ?_ ?_ ?_ ?_ ?_ ?_ ?_ ?_ ?_ ?_ ?_ ?_ ?_ <;> (first | exact Mk.mk | exact trivial | (repeat intro hq))
      · exact (idxP_hit hlt ha hq).symm
      · refine ⟨i + 1, by omega, ⟨by omega, ?_⟩, Wk_tmpl [] ⟨rfl, rfl, rfl, rfl, trivial⟩ trivial rfl rfl⟩
        rw [take1 hlt (dflt TEd), List.any_append, ha]
        simpa using hq
    · obtain rfl : i = xs.length := by omega
      refine stp ?_ ?_ ?_ ?_ ?_ ?_ ?_ ?_ ?_ ?_ ?_ ?_ ?_ ?_ ?_ ?_ <;> (first | exact Mk.mk | exact trivial | (repeat intro hq))
      rw [List.take_length] at ha
      exact (idxP_none ha).symm
set_option maxHeartbeats 4000000 in
set_option maxRecDepth 20000 in
theorem containsE_ok (f : FuncId) (caps : List (Σ t : Ty, t.T)) (p : Ed → Bool) (hb : fnB Tryz.prog f = true) (xs : List Ed) (hF : ∀ e ∈ xs, FnC Tryz.prog f ([aEd e] ++ capA caps) ([aEd0] ++ caps.map fun _ => aX) (.one (sB (p e)))) (hl : xs.length ≤ 16777216) : FnC Tryz.prog 140 [aEs xs, .sem (clS f caps)] [aX, aX] (.one (sB (xs.any p))) := by
  have k1 := indexE_ok f caps p hb xs hF hl
  rw [← idxP_any]
  refine FnC_of (fn := Tryz.f140) Tryz.func140 rfl rfl rfl ?_
  have zD1 := fun (zh : True) => k1
  refine stp ?_ ?_ ?_ ?_ ?_ ?_ ?_ ?_ ?_ ?_ ?_ ?_ ?_ ?_ ?_ ?_ <;> (first | exact Mk.mk | exact trivial | (repeat intro hq))
set_option maxHeartbeats 4000000 in
set_option maxRecDepth 20000 in
theorem stacked_ok (xs : List Ed) (hl : xs.length ≤ 16777216) : FnC Tryz.prog 156 [aEs xs] [aX] (.one (sB (allS xs))) := by
  have e : allS xs = (decide ((xs.length : Int) ≤ 6) && !xs.any fun e => !smE e) := by
    rw [any_not, allS]
    congr 1
    exact decide_eq_decide.2 (by omega)
  rw [e]
  have k1 := containsE_ok 169 [] (fun e => !smE e) rfl xs (fun e _ => notsmall_ok e) hl
  refine FnC_of (fn := Tryz.f156) Tryz.func156 rfl rfl rfl ?_
  have zD1 := fun (zh : True) => k1
  refine stp ?_ ?_ ?_ ?_ ?_ ?_ ?_ ?_ ?_ ?_ ?_ ?_ ?_ ?_ ?_ ?_ <;> (first | exact Mk.mk | exact trivial | (repeat intro hq))
  all_goals (rw [hq]; rfl)
set_option maxHeartbeats 4000000 in
set_option maxRecDepth 20000 in
theorem isstack_ok (xs ys : List Ed) (hx : xs.length ≤ 16777216) (hy : ys.length ≤ 16777216) : FnC Tryz.prog 121 [aSt xs ys] [aSt0] (.one (sB (allS xs && allS ys))) := by
  have k1 := stacked_ok xs hx
  have k2 := stacked_ok ys hy
  refine FnC_of (fn := Tryz.f121) Tryz.func121 rfl rfl rfl ?_
  have zD1 := fun (zh : True) => k1
  have zD2 := fun (zh : True) => k2
  refine stp ?_ ?_ ?_ ?_ ?_ ?_ ?_ ?_ ?_ ?_ ?_ ?_ ?_ ?_ ?_ ?_ <;> (first | exact Mk.mk | exact trivial | (repeat intro hq))
  all_goals simp [*]
set_option maxHeartbeats 4000000 in
set_option maxRecDepth 20000 in
theorem l08all_ok (xs : List Ed) (hl : xs.length ≤ 16777216) : FnC Tryz.prog 130 [aEs xs] [aX] (.one (sB (allS xs))) := by
  have e : allS xs = (decide ((xs.length : Int) ≤ 6) && (List.range xs.length).all fun i => smE (xs.getD i (dflt TEd))) := by
    rw [allS, all_at (dflt TEd)]
    congr 1
    exact decide_eq_decide.2 (by omega)
  rw [e]
  refine FnC_of (fn := Tryz.f130) Tryz.func130 rfl rfl rfl ?_
  refine stp ?_ ?_ ?_ ?_ ?_ ?_ ?_ ?_ ?_ ?_ ?_ ?_ ?_ ?_ ?_ ?_ <;> (first | exact Mk.mk | exact trivial | (repeat intro hq))
  · simp only [decide_eq_true_eq] at hq
    rw [decide_eq_false (by omega), Bool.false_and]
  · simp only [decide_eq_false_iff_not] at hq
    rw [decide_eq_true (by omega), Bool.true_and]
    refine W_loopT (fun i : Nat => St.tmpl 19 [(0, .one (.d (.sl TEd) xs)), (3, .one (.d (.i .i64) (i : Int)))] []) (fun i => i ≤ xs.length ∧ ∀ j, j < i → smE (xs.getD j (dflt TEd)) = true) (fun i => xs.length - i) 0 ⟨Nat.zero_le _, fun j h => absurd h (Nat.not_lt_zero _)⟩ ?_ ?_
    · exact Wk_tmpl [] ⟨rfl, rfl, trivial⟩ trivial rfl rfl
    · rintro i ⟨hi, hj⟩
      rcases Nat.lt_or_ge i xs.length with hlt | hge
      · skip
        have zD1 := fun {z0} (zh : True) => l05small_ok z0
        refine stp ?_ ?_ ?_ ?_ ?_ ?_ ?_ ?_ ?_ ?_ ?_ ?_ ?_ ?_ ?_ ?_ <;> (first | exact Mk.mk | exact trivial | (repeat intro hq))
        · exact (all_stop hlt ((Bool.not_eq_true' _).mp hq)).symm
        · exact ⟨i + 1, by omega, ⟨by omega, all_more hj ((Bool.not_eq_false' _).mp hq)⟩, Wk_tmpl [] ⟨rfl, rfl, trivial⟩ trivial rfl rfl⟩
      · obtain rfl : i = xs.length := by omega
        refine stp ?_ ?_ ?_ ?_ ?_ ?_ ?_ ?_ ?_ ?_ ?_ ?_ ?_ ?_ ?_ ?_ <;> (first | exact Mk.mk | exact trivial | (repeat intro hq))
        exact (all_go hj).symm
set_option maxHeartbeats 4000000 in
set_option maxRecDepth 20000 in
theorem stackok_ok (xs ys : List Ed) (hx : xs.length ≤ 16777216) (hy : ys.length ≤ 16777216) : FnC Tryz.prog 87 [aSt xs ys] [aSt0] (.one (sB (allS xs && allS ys))) := by
  have k1 := l08all_ok xs hx
  have k2 := l08all_ok ys hy
  refine FnC_of (fn := Tryz.f87) Tryz.func87 rfl rfl rfl ?_
  have zD1 := fun (zh : True) => k1
  have zD2 := fun (zh : True) => k2
  refine stp ?_ ?_ ?_ ?_ ?_ ?_ ?_ ?_ ?_ ?_ ?_ ?_ ?_ ?_ ?_ ?_ <;> (first | exact Mk.mk | exact trivial | (repeat intro hq))
  all_goals simp [*]
/-- Does an edit fit a text, but for its length? -/
noncomputable def fitB (t : List UInt8) (e : Ed) : Bool := cutB t e.1 && ((decide (0 ≤ e.2.1) && decide (e.2.1 ≤ t.length - e.1)) && (cutB t (e.1 + e.2.1) && tokM e.2.2))
set_option maxHeartbeats 4000000 in
set_option maxRecDepth 20000 in
theorem fits_ok (t : List UInt8) (e : Ed) (hl : t.length ≤ 16777216) (hp : e.2.2.length ≤ 16777216) : FnC Tryz.prog 143 [aEd e, aBy t] [aEd0, aX] (.one (sB (fitB t e))) := by
  have k1 := fun a => iscut_ok t a hl
  have k2 := istext_ok e.2.2 hp
  unfold fitB
  by_cases hc : cutB t e.1 = true
  · have h1 := cutB_in hc
    refine FnC_of (fn := Tryz.f143) Tryz.func143 rfl rfl rfl ?_
    have zD1 := fun (zh : True) => k2
    have zD2 := fun {z0} (zh : True) => k1 z0
    have zD3 := fun {z0} {z1} {z2} (zh : True) => in_ok z0 z1 z2
    refine stp ?_ ?_ ?_ ?_ ?_ ?_ ?_ ?_ ?_ ?_ ?_ ?_ ?_ ?_ ?_ ?_ <;> (first | exact Mk.mk | exact trivial | (repeat intro hq))
    all_goals first
      | ((try simp only [cond_true] at *); simp only [Bool.and_true, Bool.true_and, Bool.and_false, Bool.false_and, *]; done)
      | ((try simp only [cond_true] at *); simp [*]; done)
  · refine FnC_of (fn := Tryz.f143) Tryz.func143 rfl rfl rfl ?_
    have zD1 := fun {z0} (zh : True) => k1 z0
    refine stp ?_ ?_ ?_ ?_ ?_ ?_ ?_ ?_ ?_ ?_ ?_ ?_ ?_ ?_ ?_ ?_ <;> (first | exact Mk.mk | exact trivial | (repeat intro hq))
    all_goals first
      | ((try simp only [cond_true] at *); simp only [Bool.and_true, Bool.true_and, Bool.and_false, Bool.false_and, *]; done)
      | ((try simp only [cond_true] at *); simp [*]; done)
theorem cutok_t {t : List UInt8} (h : tokM t = true) (a : Int) : FnC Tryz.prog 89 [aBy t, aI a] [aX, aX] (.one (sB (cutB t a))) := by
  rw [← rtM_nn h]; exact cutok_ok t a (Nat.le_trans (tokM_len h) (by decide))
set_option maxHeartbeats 4000000 in
set_option maxRecDepth 20000 in
theorem l10fits_ok (t : List UInt8) (e : Ed) (h : tokM t = true) (hp : e.2.2.length ≤ 16777216) : FnC Tryz.prog 131 [aBy t, aEd e] [aX, aEd0] (.one (sB (fitB t e))) := by
  have hl := tokM_len h
  have k1 := fun a => cutok_t h a
  have k2 := textok_ok e.2.2 hp
  unfold fitB
  by_cases hc : cutB t e.1 = true
  · have h1 := cutB_in hc
    refine FnC_of (fn := Tryz.f131) Tryz.func131 rfl rfl rfl ?_
    have zD1 := fun (zh : True) => k2
    have zD2 := fun {z0} (zh : True) => k1 z0
    refine stp ?_ ?_ ?_ ?_ ?_ ?_ ?_ ?_ ?_ ?_ ?_ ?_ ?_ ?_ ?_ ?_ <;> (first | exact Mk.mk | exact trivial | (repeat intro hq))
    all_goals first
      | ((try simp only [cond_true] at *); simp only [Bool.and_true, Bool.true_and, Bool.and_false, Bool.false_and, *]; done)
      | ((try simp only [cond_true] at *); simp [*]; done)
  · refine FnC_of (fn := Tryz.f131) Tryz.func131 rfl rfl rfl ?_
    have zD1 := fun {z0} (zh : True) => k1 z0
    refine stp ?_ ?_ ?_ ?_ ?_ ?_ ?_ ?_ ?_ ?_ ?_ ?_ ?_ ?_ ?_ ?_ <;> (first | exact Mk.mk | exact trivial | (repeat intro hq))
    all_goals first
      | ((try simp only [cond_true] at *); simp only [Bool.and_true, Bool.true_and, Bool.and_false, Bool.false_and, *]; done)
      | ((try simp only [cond_true] at *); simp [*]; done)
set_option maxHeartbeats 4000000 in
set_option maxRecDepth 20000 in
theorem l10fitall_ok (t : List UInt8) (xs : List Ed) (h : tokM t = true) (hl : xs.length ≤ 16777216) (hw : ∀ e ∈ xs, e.2.2.length ≤ 16777216) : FnC Tryz.prog 88 [aBy t, aEs xs] [aX, aX] (.one (sB (xs.all (fitB t)))) := by
  rw [all_at (dflt TEd)]
  have k1 := fun i => l10fits_ok t (xs.getD i (dflt TEd)) h (getEd hw i)
  refine FnC_of (fn := Tryz.f88) Tryz.func88 rfl rfl rfl ?_
  refine stp ?_ ?_ ?_ ?_ ?_ ?_ ?_ ?_ ?_ ?_ ?_ ?_ ?_ ?_ ?_ ?_ <;> (first | exact Mk.mk | exact trivial | (repeat intro hq))
  refine W_loopT (fun i : Nat => St.tmpl 19 [(0, .one (.d (.sl .u8) t)), (1, .one (.d (.sl TEd) xs)), (5, .one (.d (.i .i64) (i : Int)))] []) (fun i => i ≤ xs.length ∧ ∀ j, j < i → fitB t (xs.getD j (dflt TEd)) = true) (fun i => xs.length - i) 0 ⟨Nat.zero_le _, fun j h => absurd h (Nat.not_lt_zero _)⟩ ?_ ?_
  · exact Wk_tmpl [] ⟨rfl, rfl, rfl, trivial⟩ trivial rfl rfl
  · rintro i ⟨hi, hj⟩
    rcases Nat.lt_or_ge i xs.length with hlt | hge
    · skip
      have zD1 := fun {z0} (zh : True) => k1 z0
      refine stp ?_ ?_ ?_ ?_ ?_ ?_ ?_ ?_ ?_ ?_ ?_ ?_ ?_ ?_ ?_ ?_ <;> (first | exact Mk.mk | exact trivial | (repeat intro hq))
      · exact (all_stop hlt ((Bool.not_eq_true' _).mp hq)).symm
      · exact ⟨i + 1, by omega, ⟨by omega, all_more hj ((Bool.not_eq_false' _).mp hq)⟩, Wk_tmpl [] ⟨rfl, rfl, rfl, trivial⟩ trivial rfl rfl⟩
    · obtain rfl : i = xs.length := by omega
      refine stp ?_ ?_ ?_ ?_ ?_ ?_ ?_ ?_ ?_ ?_ ?_ ?_ ?_ ?_ ?_ ?_ <;> (first | exact Mk.mk | exact trivial | (repeat intro hq))
      exact (all_go hj).symm
set_option maxHeartbeats 4000000 in
set_option maxRecDepth 20000 in
theorem selok_ok (t : List UInt8) (s : Int × Int) (h : tokM t = true) : FnC Tryz.prog 86 [aBy t, .ag [sI s.1, sI s.2]] [aX, .ag [.any, .any]] (.one (sB (cutB t s.1 && cutB t s.2))) := by
  have k1 := fun a => cutok_t h a
  refine FnC_of (fn := Tryz.f86) Tryz.func86 rfl rfl rfl ?_
  have zD1 := fun {z0} (zh : True) => k1 z0
  refine stp ?_ ?_ ?_ ?_ ?_ ?_ ?_ ?_ ?_ ?_ ?_ ?_ ?_ ?_ ?_ ?_ <;> (first | exact Mk.mk | exact trivial | (repeat intro hq))
  all_goals simp [*]
end Go.LX

