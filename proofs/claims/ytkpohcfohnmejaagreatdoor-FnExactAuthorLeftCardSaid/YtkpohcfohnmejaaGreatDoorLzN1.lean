/- A part of the proof of the statement in the row text. -/
import Derived.Test.YtkpohcfohnmejaaGreatDoorLzD4
import Derived.Test.YtkpohcfohnmejaaGreatDoorLzG5
import Derived.Test.YtkpohcfohnmejaaGreatDoorLxCopy
import Derived.Test.YtkpohcfohnmejaaGreatDoorLxStpL
import Derived.Test.YtkpohcfohnmejaaGreatDoorLzE4
import Derived.Test.YtkpohcfohnmejaaGreatDoorLxOpen
set_option linter.unusedVariables false
set_option linter.unusedSimpArgs false
namespace Go.LX
open Go.Proofs
attribute [local irreducible] W WO OpW RW EndQ
/-- The first i of xs, and what stood behind. -/
def part (xs : List UInt8) (i : Nat) : List UInt8 := xs.take i ++ List.replicate (xs.length - i) 0
theorem part_len {xs : List UInt8} {i : Nat} (h : i ≤ xs.length) : (part xs i).length = xs.length := by
  simp [part]; omega
theorem part_set {xs : List UInt8} {i : Nat} (h : i < xs.length) : (part xs i).set i (xs.getD i 0) = part xs (i + 1) := by
  unfold part
  rw [List.set_append_right _ _ (by simp; omega)]
  obtain ⟨k, hk⟩ : ∃ k, xs.length - i = k + 1 := ⟨xs.length - i - 1, by omega⟩
  rw [hk, show i - (xs.take i).length = 0 by simp; omega, List.replicate_succ, List.set_cons_zero, List.take_add_one, show xs.length - (i + 1) = k by omega]
  simp only [List.getElem?_eq_getElem h, Option.toList_some, List.append_assoc, List.singleton_append, List.getD_eq_getElem?_getD, Option.getD_some]
set_option maxHeartbeats 4000000 in
set_option maxRecDepth 20000 in
theorem tobytes_ok (xs : List UInt8) (hl : xs.length ≤ 16777216) : FnC Tryz.prog 36 [aBy xs] [aX] (.one (oBy xs)) := by
  refine FnC_of (fn := Tryz.f36) Tryz.func36 rfl rfl rfl ?_
  refine stp ?_ ?_ ?_ ?_ ?_ ?_ ?_ ?_ ?_ ?_ ?_ ?_ ?_ ?_ ?_ ?_ <;> (first | exact Mk.mk | exact trivial | (repeat intro hq))
  refine W_loopT (fun i : Nat => St.tmpl 22 [(0, .one (.d (.sl .u8) xs)), (3, .one (.rf 8000 .ar)), (4, .one (.d (.i .i64) (i : Int)))] [(8000, .rows 5 .u8 false (part xs i))]) (fun i => i ≤ xs.length) (fun i => xs.length - i) 0 (Nat.zero_le _) ?_ ?_
  · refine Wk_tmpl [] ⟨rfl, rfl, rfl, trivial⟩ ⟨?_, trivial⟩ rfl rfl
    refine congrArg (fun r => some (Ob.rows 5 Ty.u8 false r)) ?_
    simp [part]
  · intro i hi
    have hpl := part_len hi
    refine stp ?_ ?_ ?_ ?_ ?_ ?_ ?_ ?_ ?_ ?_ ?_ ?_ ?_ ?_ ?_ ?_ <;> (first | exact Mk.mk | exact trivial | (repeat intro hq))
    all_goals first
      | (have hlt : i < xs.length := by simpa using hq
         exact ⟨i + 1, by omega, by omega, Wk_tmpl [] ⟨rfl, rfl, rfl, trivial⟩ ⟨congrArg (fun r => some (Ob.rows 5 Ty.u8 false r)) (part_set hlt), trivial⟩ rfl rfl⟩)
      | (have : i = xs.length := by simp at hq; omega
         simp [part, this]; done)
      | (rw [hpl]; simpa using hq)
set_option maxHeartbeats 4000000 in
set_option maxRecDepth 20000 in
theorem eqbytes_ok (xs ys : List UInt8) (hl : xs.length ≤ 16777216) (h : xs = ys) : FnC Tryz.prog 25 [aBy xs, aBy ys] [aX, aX] (.one (sB true)) := by
  subst h
  refine FnC_of (fn := Tryz.f25) Tryz.func25 rfl rfl rfl ?_
  refine stp ?_ ?_ ?_ ?_ ?_ ?_ ?_ ?_ ?_ ?_ ?_ ?_ ?_ ?_ ?_ ?_ <;> (first | exact Mk.mk | exact trivial | (repeat intro hq))
  refine W_loopT (fun i : Nat => St.tmpl 26 [(0, .one (.d (.sl .u8) xs)), (1, .one (.d (.sl .u8) xs)), (5, .one (.d (.i .i64) (i : Int)))] []) (fun i => i ≤ xs.length) (fun i => xs.length - i) 0 (Nat.zero_le _) ?_ ?_
  · exact Wk_tmpl [] ⟨rfl, rfl, rfl, trivial⟩ trivial rfl rfl
  · intro i hi
    refine stp ?_ ?_ ?_ ?_ ?_ ?_ ?_ ?_ ?_ ?_ ?_ ?_ ?_ ?_ ?_ ?_ <;> (first | exact Mk.mk | exact trivial | (repeat intro hq))
    have hlt : i < xs.length := by simp_all
    exact ⟨i + 1, by omega, by omega, Wk_tmpl [] ⟨rfl, rfl, rfl, trivial⟩ trivial rfl rfl⟩
set_option maxHeartbeats 4000000 in
set_option maxRecDepth 20000 in
theorem szb_ok (xs : List UInt8) (n : Int) (hn : -1 ≤ n ∧ n ≤ 1048576) (hl : xs.length ≤ 9223372036854775807) : FnC Tryz.prog 39 [aBy xs, aI n] [aX, aX] (.one (sI (if n - xs.length < 0 then -1 else n - xs.length))) := by
  refine FnC_of (fn := Tryz.f39) Tryz.func39 rfl rfl rfl ?_
  refine stp ?_ ?_ ?_ ?_ ?_ ?_ ?_ ?_ ?_ ?_ ?_ ?_ ?_ ?_ ?_ ?_ <;> (first | exact Mk.mk | exact trivial | (repeat intro hq))
  all_goals first
    | (rw [if_pos (of_decide_eq_true hq)]; done)
    | (rw [if_neg (of_decide_eq_false hq)]; done)
/-- Bytes that count on from n. -/
def mk (n : Int) (k : Nat) : List UInt8 := (List.range k).map fun j : Nat => toB (n + (j : Int))
theorem mk_len {n : Int} {k : Nat} : (mk n k).length = k := by simp [mk]
theorem mk_get {n : Int} {k i : Nat} (h : i < k) : (mk n k).getD i 0 = toB (n + i) := by simp [mk, h]
theorem mk_set {n : Int} {xs : List UInt8} {i : Nat} (h : i < xs.length) : (mk n i ++ xs.drop i).set i (toB (n + i)) = mk n (i + 1) ++ xs.drop (i + 1) := by
  rw [List.set_append_right _ _ (by simp [mk_len]), mk_len, Nat.sub_self, List.drop_eq_getElem_cons h, List.set_cons_zero]
  simp [mk, List.range_succ]
set_option maxHeartbeats 4000000 in
set_option maxRecDepth 20000 in
theorem markbytesE_ok (e1 : TypeId) (xs : List UInt8) (n : Int) (h0 : 0 ≤ n ∧ n ≤ 1000000000) (hl : xs.length ≤ 16777216) : FnC Tryz.prog 26 [.c (.own e1 .u8 false xs), aI n] [.c (.own e1 .u8 false (mk n xs.length)), aX] (.one (sI (n + xs.length))) := by
  refine FnC_of (fn := Tryz.f26) Tryz.func26 rfl rfl rfl ?_
  refine stp ?_ ?_ ?_ ?_ ?_ ?_ ?_ ?_ ?_ ?_ ?_ ?_ ?_ ?_ ?_ ?_ <;> (first | exact Mk.mk | exact trivial | (repeat intro hq))
  refine W_loopT (fun i : Nat => St.tmpl 20 [(0, .one (.rf 1 .ar)), (1, .one (.d (.i .i64) (n + i))), (5, .one (.d (.i .i64) (i : Int)))] [(1, .rows e1 .u8 false (mk n i ++ xs.drop i))]) (fun i => i ≤ xs.length) (fun i => xs.length - i) 0 (Nat.zero_le _) ?_ ?_
  · refine Wk_tmpl [] ⟨rfl, ?_, rfl, trivial⟩ ⟨?_, trivial⟩ rfl rfl
    · exact congrArg (fun r => SV.one (.d (.i .i64) r)) (by simp : n = n + ((0 : Nat) : Int))
    · exact congrArg (fun r => some (Ob.rows e1 Ty.u8 false r)) (by rfl)
  · intro i hi
    have hlen : (mk n i ++ xs.drop i).length = xs.length := by simp [mk_len]; omega
    refine stp ?_ ?_ ?_ ?_ ?_ ?_ ?_ ?_ ?_ ?_ ?_ ?_ ?_ ?_ ?_ ?_ <;> (first | exact Mk.mk | exact trivial | (repeat intro hq))
    · have hlt : i < xs.length := by simp only [decide_eq_true_eq] at hq; omega
      refine ⟨i + 1, by omega, by omega, Wk_tmpl [] ⟨rfl, ?_, rfl, trivial⟩ ⟨congrArg (fun r => some (Ob.rows e1 Ty.u8 false r)) (mk_set hlt), trivial⟩ rfl rfl⟩
      exact congrArg (fun r => SV.one (.d (.i .i64) r)) (by omega : n + (i : Int) + 1 = n + ((i + 1 : Nat) : Int))
    · have : i = xs.length := by simp only [decide_eq_false_iff_not] at hq; omega
      subst this
      simp
    · have e : i = xs.length := by simp only [decide_eq_false_iff_not] at hq; omega
      rw [e]
set_option maxHeartbeats 4000000 in
set_option maxRecDepth 20000 in
theorem heldbytes_ok (k : Nat) (n : Int) (h0 : 0 ≤ n ∧ n ≤ 1000000000) (hl : k ≤ 16777216) : FnC Tryz.prog 27 [aBy (mk n k), aI n] [aX, aX] (.one (sI (n + k))) := by
  have hlen := mk_len (n := n) (k := k)
  refine FnC_of (fn := Tryz.f27) Tryz.func27 rfl rfl rfl ?_
  refine stp ?_ ?_ ?_ ?_ ?_ ?_ ?_ ?_ ?_ ?_ ?_ ?_ ?_ ?_ ?_ ?_ <;> (first | exact Mk.mk | exact trivial | (repeat intro hq))
  refine W_loopT (fun i : Nat => St.tmpl 22 [(0, .one (.d (.sl .u8) (mk n k))), (1, .one (.d (.i .i64) (n + i))), (5, .one (.d (.i .i64) (i : Int)))] []) (fun i => i ≤ k) (fun i => k - i) 0 (Nat.zero_le _) ?_ ?_
  · refine Wk_tmpl [] ⟨rfl, ?_, rfl, trivial⟩ trivial rfl rfl
    exact congrArg (fun r => SV.one (.d (.i .i64) r)) (by simp : n = n + ((0 : Nat) : Int))
  · intro i hi
    refine stp ?_ ?_ ?_ ?_ ?_ ?_ ?_ ?_ ?_ ?_ ?_ ?_ ?_ ?_ ?_ ?_ <;> (first | exact Mk.mk | exact trivial | (repeat intro hq))
    · exfalso
      have hlt : i < k := by simp_all
      have e : (mk n k).getD (i : Int).toNat (dflt Ty.u8) = toB (n + i) := mk_get hlt
      rw [e] at hq
      simp at hq
    · have hlt : i < k := by simp_all
      refine ⟨i + 1, by omega, by omega, Wk_tmpl [] ⟨rfl, ?_, rfl, trivial⟩ trivial rfl rfl⟩
      exact congrArg (fun r => SV.one (.d (.i .i64) r)) (by omega : n + (i : Int) + 1 = n + ((i + 1 : Nat) : Int))
    · have e : i = k := by simp only [decide_eq_false_iff_not] at hq; omega
      rw [e]
theorem heldbytesL_ok (L : List UInt8) (k : Nat) (n : Int) (h : L = mk n k) (h0 : 0 ≤ n ∧ n ≤ 1000000000) (hl : k ≤ 16777216) : FnC Tryz.prog 27 [aBy L, aI n] [aX, aX] (.one (sI (n + k))) := by
  subst h; exact heldbytes_ok k n h0 hl
/-- What is left of a measure. -/
def szl (n : Int) (k : Nat) : Int := if n - k < 0 then -1 else n - k
/-- The first i of xs, and what stood behind. -/
def partG {α : Type} (d : α) (xs : List α) (i : Nat) : List α := xs.take i ++ List.replicate (xs.length - i) d
theorem partG_len {α : Type} {d : α} {xs : List α} {i : Nat} (h : i ≤ xs.length) : (partG d xs i).length = xs.length := by
  simp [partG]; omega
theorem partG_set {α : Type} {d d' : α} {xs : List α} {i : Nat} (h : i < xs.length) : (partG d xs i).set i (xs.getD i d') = partG d xs (i + 1) := by
  unfold partG
  rw [List.set_append_right _ _ (by simp; omega)]
  obtain ⟨k, hk⟩ : ∃ k, xs.length - i = k + 1 := ⟨xs.length - i - 1, by omega⟩
  rw [hk, show i - (xs.take i).length = 0 by simp; omega, List.replicate_succ, List.set_cons_zero, List.take_add_one, show xs.length - (i + 1) = k by omega]
  simp only [List.getElem?_eq_getElem h, Option.toList_some, List.append_assoc, List.singleton_append, List.getD_eq_getElem?_getD, Option.getD_some]
end Go.LX

set_option linter.unusedVariables false
set_option linter.unusedSimpArgs false
namespace Go.LX
open Go.Proofs
attribute [local irreducible] W WO OpW RW EndQ
/-- What a size leaves: nothing below zero. -/
def szL (left n : Int) : Int := if left - n < 0 then -1 else left - n
theorem szL_neg {n m : Int} (h : szL n m < 0) : szL n m = -1 := by
  unfold szL at h ⊢
  split <;> rename_i h2
  · rfl
  · rw [if_neg h2] at h; omega
theorem szL_pos {n m : Int} (h : 0 ≤ szL n m) : szL n m = n - m ∧ m ≤ n := by
  unfold szL at h ⊢
  split <;> rename_i h2
  · rw [if_pos h2] at h; omega
  · omega
theorem szL_big {n : Nat} (h : 1048576 < n) : szL 1048576 n = -1 := by unfold szL; rw [if_pos (by omega)]
theorem szL_small {n : Nat} (h : n ≤ 1048576) : szL 1048576 n = 1048576 - n := by unfold szL; rw [if_neg (by omega)]
set_option maxHeartbeats 4000000 in
set_option maxRecDepth 20000 in
theorem szbytes_ok (xs : List UInt8) (n : Int) (h0 : 0 ≤ n ∧ n ≤ 1000000000) (hl : xs.length ≤ 9223372036854775807) : FnC Tryz.prog 39 [aBy xs, aI n] [aX, aX] (.one (sI (szL n xs.length))) := by
  refine FnC_of (fn := Tryz.f39) Tryz.func39 rfl rfl rfl ?_
  refine stp ?_ ?_ ?_ ?_ ?_ ?_ ?_ ?_ ?_ ?_ ?_ ?_ ?_ ?_ ?_ ?_ <;> (first | exact Mk.mk | exact trivial | (repeat intro hq))
  · exact (if_pos (by simpa using hq)).symm
  · exact (if_neg (by simpa using hq)).symm
abbrev aCh (d : List UInt8) : SA := .ag [sBy d]
abbrev aCh0 : SA := .ag [.any]
theorem fl_take {cs : List (List UInt8)} {i : Nat} (h : i < cs.length) (d : List UInt8) : (cs.take (i + 1)).flatten.length = (cs.take i).flatten.length + (cs.getD i d).length := by
  rw [take_one h d]; simp
theorem fl_le {cs : List (List UInt8)} {i : Nat} : (cs.take i).flatten.length ≤ cs.flatten.length := flat_take
theorem fl_mem {cs : List (List UInt8)} {d : List UInt8} (h : d ∈ cs) : d.length ≤ cs.flatten.length := by
  induction cs with
  | nil => simp at h
  | cons c cs ih =>
    rw [List.flatten_cons, List.length_append]
    rcases List.mem_cons.1 h with rfl | h
    · omega
    · have := ih h; omega
abbrev aRp (cs : List (List UInt8)) : SA := .ag [sChs cs]
abbrev aRp0 : SA := .ag [.any]
/-- Chunks whose bytes count on from n. -/
def mkC : Int → List (List UInt8) → List (List UInt8)
  | _, [] => []
  | n, d :: r => mk n d.length :: mkC (n + d.length) r
theorem mkC_len : ∀ {xs : List (List UInt8)} {n : Int}, (mkC n xs).length = xs.length
  | [], _ => rfl
  | _ :: _, _ => by simp [mkC, mkC_len]
theorem mkC_app : ∀ {xs ys : List (List UInt8)} {n : Int}, mkC n (xs ++ ys) = mkC n xs ++ mkC (n + xs.flatten.length) ys
  | [], ys, n => by simp [mkC]
  | x :: xs, ys, n => by
    simp only [List.cons_append, mkC, mkC_app (xs := xs), List.flatten_cons, List.length_append]
    congr 3
    push_cast
    omega
theorem mkC_set {xs : List (List UInt8)} {n : Int} {i : Nat} {d : List UInt8} (h : i < xs.length) : (mkC n (xs.take i) ++ xs.drop i).set i (mk (n + (xs.take i).flatten.length) (xs.getD i d).length) = mkC n (xs.take (i + 1)) ++ xs.drop (i + 1) := by
  have hl : (mkC n (xs.take i)).length = i := by rw [mkC_len]; simp; omega
  rw [List.set_append_right _ _ (by omega), hl, Nat.sub_self, List.drop_eq_getElem_cons h, List.set_cons_zero, take_one h d, mkC_app]
  simp only [List.append_assoc, mkC, List.cons_append, List.nil_append]
theorem mkC_get {xs : List (List UInt8)} {n : Int} {i : Nat} {d : List UInt8} (h : i < xs.length) : (mkC n (xs.take i) ++ xs.drop i).getD i d = xs.getD i d := by
  have hl : (mkC n (xs.take i)).length = i := by rw [mkC_len]; simp; omega
  simp [List.getElem?_append, hl]
theorem mkC_at {xs : List (List UInt8)} {n : Int} {i : Nat} {d : List UInt8} (h : i < xs.length) : (mkC n xs).getD i d = mk (n + (xs.take i).flatten.length) (xs.getD i d).length := by
  have e : xs = xs.take i ++ xs.getD i d :: xs.drop (i + 1) := by
    rw [List.getD_eq_getElem?_getD, List.getElem?_eq_getElem h, Option.getD_some]
    rw [← List.drop_eq_getElem_cons h, List.take_append_drop]
  have e2 : mkC n xs = mkC n (xs.take i) ++ mkC (n + (xs.take i).flatten.length) (xs.getD i d :: xs.drop (i + 1)) := by
    conv => lhs; rw [e]
    rw [mkC_app]
  have hl : (mkC n (xs.take i)).length = i := by rw [mkC_len]; simp; omega
  rw [e2, List.getD_eq_getElem?_getD, List.getElem?_append_right (by omega), hl, Nat.sub_self, mkC]
  simp only [List.getElem?_cons_zero, Option.getD_some]
end Go.LX

set_option linter.unusedVariables false
set_option linter.unusedSimpArgs false
namespace Go.LX
open Go.Proofs
attribute [local irreducible] W WO OpW RW EndQ
/-- How much a datum counts: the lengths of all its slices. -/
def szT : (t : Ty) → t.T → Nat
  | .sl e, xs => List.length (α := e.T) xs + ((xs : List e.T).map (szT e)).sum
  | .pr a b, x => szT a x.1 + szT b x.2
  | .st, s => List.length (α := UInt8) s
  | _, _ => 0
/-- A list marked from n on, and the number behind it. -/
def mrS {α : Type} (f : Int → α → α × Int) : Int → List α → List α × Int
  | n, [] => ([], n)
  | n, x :: r => ((f n x).1 :: (mrS f (f n x).2 r).1, (mrS f (f n x).2 r).2)
def mrT : (t : Ty) → Int → t.T → t.T × Int
  | .i _, n, _ => (n, n + 1)
  | .u8, n, _ => (toB n, n + 1)
  | .sl e, n, xs => mrS (mrT e) n xs
  | .pr a b, n, x => (((mrT a n x.1).1, (mrT b (mrT a n x.1).2 x.2).1), (mrT b (mrT a n x.1).2 x.2).2)
  | .bo, n, x => (x, n)
  | .st, n, x => (x, n)
  | .un, n, x => (x, n)
section
variable {α : Type} {f : Int → α → α × Int}
theorem mrS_len : ∀ {xs : List α} {n : Int}, (mrS f n xs).1.length = xs.length
  | [], _ => rfl
  | _ :: _, _ => by simp [mrS, mrS_len]
theorem mrS_app : ∀ {xs ys : List α} {n : Int}, mrS f n (xs ++ ys) = ((mrS f n xs).1 ++ (mrS f (mrS f n xs).2 ys).1, (mrS f (mrS f n xs).2 ys).2)
  | [], ys, n => by simp [mrS]
  | x :: xs, ys, n => by simp only [List.cons_append, mrS, mrS_app (xs := xs)]
theorem mrS_one {x : α} {n : Int} : mrS f n [x] = ([(f n x).1], (f n x).2) := rfl
theorem tk1 {xs : List α} {i : Nat} (h : i < xs.length) (d : α) : xs.take (i + 1) = xs.take i ++ [xs.getD i d] := by
  rw [List.take_add_one, List.getD_eq_getElem?_getD, List.getElem?_eq_getElem h]; rfl
theorem mrS_nx {xs : List α} {n : Int} {i : Nat} (h : i < xs.length) (d : α) : (mrS f n (xs.take (i + 1))).2 = (f (mrS f n (xs.take i)).2 (xs.getD i d)).2 := by
  rw [tk1 h d, mrS_app, mrS_one]
theorem mrS_set {xs : List α} {n : Int} {i : Nat} (h : i < xs.length) (d : α) : ((mrS f n (xs.take i)).1 ++ xs.drop i).set i (f (mrS f n (xs.take i)).2 (xs.getD i d)).1 = (mrS f n (xs.take (i + 1))).1 ++ xs.drop (i + 1) := by
  have hl : (mrS f n (xs.take i)).1.length = i := by rw [mrS_len]; simp; omega
  rw [List.set_append_right _ _ (by omega), hl, Nat.sub_self, List.drop_eq_getElem_cons h, List.set_cons_zero, tk1 h d, mrS_app, mrS_one]
  simp only [List.append_assoc, List.cons_append, List.nil_append]
theorem mrS_get {xs : List α} {n : Int} {i : Nat} (h : i < xs.length) (d : α) : ((mrS f n (xs.take i)).1 ++ xs.drop i).getD i d = xs.getD i d := by
  have hl : (mrS f n (xs.take i)).1.length = i := by rw [mrS_len]; simp; omega
  simp [List.getElem?_append, hl]
theorem mrS_at {xs : List α} {n : Int} {i : Nat} (h : i < xs.length) (d : α) : (mrS f n xs).1.getD i d = (f (mrS f n (xs.take i)).2 (xs.getD i d)).1 := by
  have e : xs = xs.take i ++ xs.getD i d :: xs.drop (i + 1) := by
    rw [List.getD_eq_getElem?_getD, List.getElem?_eq_getElem h, Option.getD_some]
    rw [← List.drop_eq_getElem_cons h, List.take_append_drop]
  have e2 : (mrS f n xs).1 = (mrS f n (xs.take i)).1 ++ (mrS f (mrS f n (xs.take i)).2 (xs.getD i d :: xs.drop (i + 1))).1 := by
    conv => lhs; rw [e]
    rw [mrS_app]
  have hl : (mrS f n (xs.take i)).1.length = i := by rw [mrS_len]; simp; omega
  rw [e2, List.getD_eq_getElem?_getD, List.getElem?_append_right (by omega), hl, Nat.sub_self, mrS]
  simp only [List.getElem?_cons_zero, Option.getD_some]
end
theorem mrS_u8 : ∀ {xs : List UInt8} {n : Int}, mrT (.sl .u8) n xs = (mk n xs.length, n + xs.length)
  | [], n => by simp [mrT, mrS, mk]
  | x :: xs, n => by
    have ih := mrS_u8 (xs := xs) (n := n + 1)
    simp only [mrT] at ih
    simp only [mrT, mrS, ih, List.length_cons]
    refine Prod.ext ?_ (by simp only; omega)
    simp only [mk, List.range_succ_eq_map, List.map_cons, List.map_map]
    congr 1
    · simp
    · refine List.map_congr_left fun j _ => ?_
      simp only [Function.comp]
      congr 1
      push_cast
      omega
/-- How many numbers. -/
def cnT : (t : Ty) → t.T → Nat
  | .i _, _ => 1
  | .u8, _ => 1
  | .sl e, xs => ((xs : List e.T).map (cnT e)).sum
  | .pr a b, x => cnT a x.1 + cnT b x.2
  | _, _ => 0
theorem mrT_nx : ∀ {t : Ty} {n : Int} {x : t.T}, (mrT t n x).2 = n + cnT t x
  | .i _, n, x => by simp [mrT, cnT]
  | .u8, n, x => by simp [mrT, cnT]
  | .bo, n, x => by simp [mrT, cnT]
  | .st, n, x => by simp [mrT, cnT]
  | .un, n, x => by simp [mrT, cnT]
  | .pr a b, n, x => by
    simp only [mrT, cnT, mrT_nx (t := a), mrT_nx (t := b)]
    push_cast; omega
  | .sl e, n, xs => by
    simp only [mrT, cnT]
    induction (xs : List e.T) generalizing n with
    | nil => simp [mrS]
    | cons x xs ih =>
      simp only [mrS, ih, mrT_nx (t := e), List.map_cons, List.sum_cons]
      push_cast; omega
/-- Types of which no part has more than sixteen cells. -/
def thin : Ty → Bool
  | .sl e => thin e && Nat.ble e.w 16
  | .pr a b => thin a && thin b
  | _ => true
theorem cn_sz : ∀ {t : Ty} {x : t.T}, thin t = true → cnT t x ≤ t.w + 16 * szT t x
  | .i _, _, _ => by simp [cnT, Ty.w]
  | .u8, _, _ => by simp [cnT, Ty.w]
  | .bo, _, _ => by simp [cnT]
  | .st, _, _ => by simp [cnT]
  | .un, _, _ => by simp [cnT]
  | .pr a b, x, h => by
    obtain ⟨h1, h2⟩ := Bool.and_eq_true_iff.1 h
    have := cn_sz (x := x.1) h1
    have := cn_sz (x := x.2) h2
    simp only [cnT, szT, Ty.w]
    omega
  | .sl e, xs, h => by
    obtain ⟨h1, h2⟩ := Bool.and_eq_true_iff.1 h
    have h2 := Nat.le_of_ble_eq_true h2
    simp only [cnT, szT]
    refine Nat.le_trans ?_ (Nat.le_add_left _ _)
    induction (xs : List e.T) with
    | nil => simp
    | cons x xs ih =>
      have := cn_sz (x := x) h1
      simp only [List.map_cons, List.sum_cons, List.length_cons]
      omega
theorem sl_sz {e : Ty} {xs : List e.T} (h : thin (.sl e) = true) : cnT (.sl e) xs ≤ 16 * szT (.sl e) xs := by
  obtain ⟨h1, h2⟩ := Bool.and_eq_true_iff.1 h
  have h2 := Nat.le_of_ble_eq_true h2
  simp only [cnT, szT]
  induction xs with
  | nil => simp
  | cons x xs ih =>
    have := cn_sz (x := x) h1
    simp only [List.map_cons, List.sum_cons, List.length_cons]
    omega
theorem sum_take {α : Type} {g : α → Nat} {xs : List α} {i : Nat} (h : i < xs.length) (d : α) : ((xs.take (i + 1)).map g).sum = ((xs.take i).map g).sum + g (xs.getD i d) := by
  rw [tk1 h d]; simp
theorem sum_le {α : Type} {g : α → Nat} {xs : List α} {i : Nat} : ((xs.take i).map g).sum ≤ (xs.map g).sum := by
  have : (xs.map g).sum = ((xs.take i).map g).sum + ((xs.drop i).map g).sum := by
    rw [← List.sum_append, ← List.map_append, List.take_append_drop]
  omega
theorem sum_mem {α : Type} {g : α → Nat} {xs : List α} {x : α} (h : x ∈ xs) : g x ≤ (xs.map g).sum := by
  induction xs with
  | nil => simp at h
  | cons y xs ih =>
    rw [List.map_cons, List.sum_cons]
    rcases List.mem_cons.1 h with rfl | h
    · omega
    · have := ih h; omega
end Go.LX

set_option linter.unusedVariables false
set_option linter.unusedSimpArgs false
namespace Go.LX
open Go.Proofs
attribute [local irreducible] W WO OpW RW EndQ
/-- The state that a seam asks for. -/
structure WkS [Glob] (σ σ' : St) : Prop where
  wk : Wk σ σ'
/-- A seam in a walk: the state behind the first part is told anew. -/
theorem W_cut [Glob] {P : Program} {σ σN : St} {Q : Exit → St → Prop} {a b : Code} (h1 : W P a (Exit.thenS (fun σ' => WkS σ' σN) Q) σ) (h2 : W P b Q σN) : W P (.seq a b) Q σ := by
  refine W_seq (h1.mono fun e σ h => ?_)
  cases e with
  | normal => exact h2.weak h.wk
  | exit id => exact h
  | goto l => exact h
  | ret => exact h
  | panic ch => exact h
  | outgrown => exact h
theorem W_cut2 [Glob] {P : Program} {σ σN : St} {Q : Exit → St → Prop} {a b c : Code} (h1 : W P a (Exit.thenS (W P b (Exit.thenS (fun σ' => WkS σ' σN) Q)) Q) σ) (h2 : W P c Q σN) : W P (.seq a (.seq b c)) Q σ := by
  refine W_seq (h1.mono fun e σ h => ?_)
  cases e with
  | normal => exact W_cut h h2
  | exit id => exact h
  | goto l => exact h
  | ret => exact h
  | panic ch => exact h
  | outgrown => exact h
theorem szT_by {xs : List UInt8} : szT (.sl .u8) xs = xs.length := by
  have : ∀ l : List UInt8, (l.map (szT .u8)).sum = 0 := fun l => by induction l with | nil => rfl | cons a l ih => rw [List.map_cons, List.sum_cons, ih]; rfl
  show xs.length + _ = _
  rw [this, Nat.add_zero]
theorem szT_is {xs : List Int} : szT (.sl (.i .i64)) xs = xs.length := by
  have : ∀ l : List Int, (l.map (szT (.i .i64))).sum = 0 := fun l => by induction l with | nil => rfl | cons a l ih => rw [List.map_cons, List.sum_cons, ih]; rfl
  show xs.length + _ = _
  rw [this, Nat.add_zero]
/-- A size that the exact laws let in. -/
structure Sz (t : Ty) (x : t.T) : Prop where
  le : szT t x ≤ 1048576
/-- A value of the program. -/
structure Wf (t : Ty) (x : t.T) : Prop where
  wf : WfT t x
theorem wfPl {a b : Ty} {x : (Ty.pr a b).T} (h : Wf (.pr a b) x) : Wf a x.1 := ⟨h.wf.1⟩
theorem wfPr {a b : Ty} {x : (Ty.pr a b).T} (h : Wf (.pr a b) x) : Wf b x.2 := ⟨h.wf.2⟩
theorem szPl {a b : Ty} {x : (Ty.pr a b).T} (h : Sz (.pr a b) x) : Sz a x.1 := ⟨by have h := h.le; simp only [szT] at h; omega⟩
theorem szPr {a b : Ty} {x : (Ty.pr a b).T} (h : Sz (.pr a b) x) : Sz b x.2 := ⟨by have h := h.le; simp only [szT] at h; omega⟩
theorem sz_len {e : Ty} {xs : List e.T} (h : Sz (.sl e) xs) : xs.length ≤ 1048576 := by
  have h := h.le; simp only [szT] at h; omega
theorem sz_at {e : Ty} {xs : List e.T} {i : Nat} (h : Sz (.sl e) xs) (hi : i < xs.length) (d : e.T) : Sz e (xs.getD i d) := by
  have h1 := sum_take (g := szT e) hi d
  have h2 := sum_le (g := szT e) (xs := xs) (i := i + 1)
  have h := h.le
  refine ⟨?_⟩
  simp only [szT] at h; omega
theorem wf_at {e : Ty} {xs : List e.T} {i : Nat} (h : Wf (.sl e) xs) (hi : i < xs.length) (d : e.T) : Wf e (xs.getD i d) := by
  rw [List.getD_eq_getElem?_getD, List.getElem?_eq_getElem hi]
  exact ⟨h.wf.2 _ (List.getElem_mem hi)⟩
theorem szL_yes {n : Int} {m : Nat} (h : (m : Int) ≤ n) : szL n m = n - m := by unfold szL; rw [if_neg (by omega)]
theorem szL_no {n : Int} {m : Nat} (h : ¬ (m : Int) ≤ n) : szL n m = -1 := by unfold szL; rw [if_pos (by omega)]
theorem partG_0 {α : Type} {d : α} {xs : List α} : List.replicate xs.length d = partG d xs 0 := by simp [partG]
theorem partG_all {α : Type} {d : α} {xs : List α} {i : Nat} (h : i = xs.length) : partG d xs i = xs := by subst h; simp [partG]
theorem mid_get {α : Type} {A B : List α} {x d : α} {i : Nat} (h : A.length = i) : (A ++ x :: B).getD i d = x := by
  subst h; simp
theorem mid_set {α : Type} {A B : List α} {x y d : α} {i : Nat} (h : A.length = i) (f : α → α) (hy : f x = y) : (A ++ x :: B).set i (f ((A ++ x :: B).getD i d)) = A ++ y :: B := by
  rw [mid_get h, hy]; subst h; simp
theorem mid_len {α : Type} {A B : List α} {x y : α} {n : Nat} (h : (A ++ x :: B).length = n) : (A ++ y :: B).length = n := by
  simpa using h
theorem drop_mid {α : Type} {A xs : List α} {i : Nat} (h : i < xs.length) (d : α) : A ++ xs.drop i = A ++ xs.getD i d :: xs.drop (i + 1) := by
  rw [List.drop_eq_getElem_cons h, List.getD_eq_getElem?_getD, List.getElem?_eq_getElem h]; rfl
theorem mrS_end {α : Type} {f : Int → α → α × Int} {xs : List α} {n : Int} {i : Nat} (h : i < xs.length) (d : α) : (mrS f n (xs.take i)).1 ++ (f (mrS f n (xs.take i)).2 (xs.getD i d)).1 :: xs.drop (i + 1) = (mrS f n (xs.take (i + 1))).1 ++ xs.drop (i + 1) := by
  rw [tk1 h d, mrS_app, mrS_one]
  simp only [List.append_assoc, List.cons_append, List.nil_append]
theorem mrS_tl {α : Type} {f : Int → α → α × Int} {xs : List α} {n : Int} {i : Nat} (h : i ≤ xs.length) : (mrS f n (xs.take i)).1.length = i := by
  rw [mrS_len, List.length_take, Nat.min_eq_left h]
/-- How far the numbers may reach. -/
theorem mr_le {e : Ty} {xs : List e.T} {n : Int} (h : thin (.sl e) = true) (hs : Sz (.sl e) xs) : n ≤ (mrT (.sl e) n xs).2 ∧ (mrT (.sl e) n xs).2 ≤ n + 16777216 := by
  have hs := hs.le
  have h1 := mrT_nx (t := .sl e) (n := n) (x := xs)
  have h2 := sl_sz (xs := xs) h
  omega
theorem mr_at {e : Ty} {xs : List e.T} {n : Int} {i : Nat} (h : thin (.sl e) = true) (hs : Sz (.sl e) xs) : n ≤ (mrS (mrT e) n (xs.take i)).2 ∧ (mrS (mrT e) n (xs.take i)).2 ≤ n + 16777216 := by
  have hs := hs.le
  have h1 := mrT_nx (t := .sl e) (n := n) (x := xs.take i)
  have h2 := sl_sz (xs := xs.take i) h
  have h3 : szT (.sl e) (xs.take i) ≤ szT (.sl e) xs := by
    have h4 := sum_le (g := szT e) (xs := xs) (i := i)
    have h5 : (xs.take i).length ≤ xs.length := by simp; omega
    simp only [szT]; omega
  have h6 : (mrT (.sl e) n (xs.take i)).2 = (mrS (mrT e) n (xs.take i)).2 := rfl
  omega
theorem szby_ok (xs : List UInt8) (n : Int) (h0 : 0 ≤ n ∧ n ≤ 1000000000) (hw : Wf (.sl .u8) xs) : FnC Tryz.prog 39 [aBy xs, aI n] [aX, aX] (.one (sI (szL n (szT (.sl .u8) xs)))) := by
  rw [szT_by]; exact szbytes_ok xs n h0 (Nat.le_trans hw.wf.1 (by decide))
theorem toby_ok (xs : List UInt8) (h : Sz (.sl .u8) xs) : FnC Tryz.prog 36 [aBy xs] [aX] (.one (oBy xs)) := tobytes_ok xs (by have := sz_len h; omega)
theorem eqby_ok (xs : List UInt8) (h : Sz (.sl .u8) xs) : FnC Tryz.prog 25 [aBy xs, aBy xs] [aX, aX] (.one (sB true)) := eqbytes_ok xs xs (by have := sz_len h; omega) rfl
theorem markby_ok (e1 : TypeId) (xs : List UInt8) (n : Int) (h0 : 0 ≤ n ∧ n ≤ 500000000) (h : Sz (.sl .u8) xs) : FnC Tryz.prog 26 [.c (.own e1 .u8 false xs), aI n] [.c (.own e1 .u8 false (mrT (.sl .u8) n xs).1), aX] (.one (sI (mrT (.sl .u8) n xs).2)) := by
  rw [mrS_u8]; exact markbytesE_ok e1 xs n (by omega) (by have := sz_len h; omega)
theorem heldby_ok (L xs : List UInt8) (n : Int) (hL : L = (mrT (.sl .u8) n xs).1) (h0 : 0 ≤ n ∧ n ≤ 500000000) (h : Sz (.sl .u8) xs) : FnC Tryz.prog 27 [aBy L, aI n] [aX, aX] (.one (sI (mrT (.sl .u8) n xs).2)) := by
  rw [mrS_u8] at hL ⊢; exact heldbytesL_ok L xs.length n hL (by omega) (by have := sz_len h; omega)
end Go.LX

