/- A part of the proof of the statement in the row text. -/
import Derived.Test.YtkpohcfohnmejaaDoorLzD4
import Derived.Test.YtkpohcfohnmejaaDoorLzG5
import Derived.Test.YtkpohcfohnmejaaDoorLxCopy
import Derived.Test.YtkpohcfohnmejaaDoorLxFrz
import Derived.Test.YtkpohcfohnmejaaDoorLzE8
set_option linter.unusedVariables false
set_option linter.unusedSimpArgs false
namespace Go.LX
open Go.Proofs
attribute [local irreducible] W WO OpW RW EndQ
/-- The first i of xs, and what stood behind. -/
def part (xs : List UInt8) (i : Nat) : List UInt8 := xs.take i ++ List.replicate (xs.length - i) 0
theorem part_len {xs : List UInt8} {i : Nat} (h : i ≤ xs.length) : (part xs i).length = xs.length := by
  simp [part]; omega
theorem part_set {xs : List UInt8} {i : Nat} (h : i < xs.length) : (part xs i).set i (xs.getD i 0) = part xs (i + 1) := by
  unfold part
  rw [List.set_append_right _ _ (by simp; omega)]
  obtain ⟨k, hk⟩ : ∃ k, xs.length - i = k + 1 := ⟨xs.length - i - 1, by omega⟩
  rw [hk, show i - (xs.take i).length = 0 by simp; omega, List.replicate_succ, List.set_cons_zero, List.take_add_one, show xs.length - (i + 1) = k by omega]
  simp only [List.getElem?_eq_getElem h, Option.toList_some, List.append_assoc, List.singleton_append, List.getD_eq_getElem?_getD, Option.getD_some]
set_option maxHeartbeats 4000000 in
set_option maxRecDepth 20000 in
theorem tobytes_ok (xs : List UInt8) (hl : xs.length ≤ 16777216) : FnC Tryd.prog 11 [aBy xs] [aX] (.one (oBy xs)) := by
  refine FnC_of (fn := Tryd.f11) Tryd.func11 rfl rfl rfl ?_
  refine stp ?_ ?_ ?_ ?_ ?_ ?_ ?_ ?_ ?_ ?_ ?_ ?_ ?_ ?_ ?_ ?_ <;> (first | exact Mk.mk | exact trivial | (repeat intro hq))
  refine W_loopT (fun i : Nat => St.tmpl 22 [(0, .one (.d (.sl .u8) xs)), (3, .one (.rf 8000 .ar)), (4, .one (.d (.i .i64) (i : Int)))] [(8000, .rows 5 .u8 false (part xs i))]) (fun i => i ≤ xs.length) (fun i => xs.length - i) 0 (Nat.zero_le _) ?_ ?_
  · refine Wk_tmpl [] ⟨rfl, rfl, rfl, trivial⟩ ⟨?_, trivial⟩ rfl rfl
    refine congrArg (fun r => some (Ob.rows 5 Ty.u8 false r)) ?_
    simp [part]
  · intro i hi
    have hpl := part_len hi
    refine stp ?_ ?_ ?_ ?_ ?_ ?_ ?_ ?_ ?_ ?_ ?_ ?_ ?_ ?_ ?_ ?_ <;> (first | exact Mk.mk | exact trivial | (repeat intro hq))
    all_goals first
      | (have hlt : i < xs.length := by simpa using hq
         exact ⟨i + 1, by omega, by omega, Wk_tmpl [] ⟨rfl, rfl, rfl, trivial⟩ ⟨congrArg (fun r => some (Ob.rows 5 Ty.u8 false r)) (part_set hlt), trivial⟩ rfl rfl⟩)
      | (have : i = xs.length := by simp at hq; omega
         simp [part, this]; done)
      | (rw [hpl]; simpa using hq)
set_option maxHeartbeats 4000000 in
set_option maxRecDepth 20000 in
theorem eqbytes_ok (xs ys : List UInt8) (hl : xs.length ≤ 16777216) (h : xs = ys) : FnC Tryd.prog 14 [aBy xs, aBy ys] [aX, aX] (.one (sB true)) := by
  subst h
  refine FnC_of (fn := Tryd.f14) Tryd.func14 rfl rfl rfl ?_
  refine stp ?_ ?_ ?_ ?_ ?_ ?_ ?_ ?_ ?_ ?_ ?_ ?_ ?_ ?_ ?_ ?_ <;> (first | exact Mk.mk | exact trivial | (repeat intro hq))
  refine W_loopT (fun i : Nat => St.tmpl 26 [(0, .one (.d (.sl .u8) xs)), (1, .one (.d (.sl .u8) xs)), (5, .one (.d (.i .i64) (i : Int)))] []) (fun i => i ≤ xs.length) (fun i => xs.length - i) 0 (Nat.zero_le _) ?_ ?_
  · exact Wk_tmpl [] ⟨rfl, rfl, rfl, trivial⟩ trivial rfl rfl
  · intro i hi
    refine stp ?_ ?_ ?_ ?_ ?_ ?_ ?_ ?_ ?_ ?_ ?_ ?_ ?_ ?_ ?_ ?_ <;> (first | exact Mk.mk | exact trivial | (repeat intro hq))
    have hlt : i < xs.length := by simp_all
    exact ⟨i + 1, by omega, by omega, Wk_tmpl [] ⟨rfl, rfl, rfl, trivial⟩ trivial rfl rfl⟩
set_option maxHeartbeats 4000000 in
set_option maxRecDepth 20000 in
theorem szb_ok (xs : List UInt8) (n : Int) (hn : -1 ≤ n ∧ n ≤ 1048576) (hl : xs.length ≤ 9223372036854775807) : FnC Tryd.prog 115 [aBy xs, aI n] [aX, aX] (.one (sI (if n - xs.length < 0 then -1 else n - xs.length))) := by
  refine FnC_of (fn := Tryd.f115) Tryd.func115 rfl rfl rfl ?_
  refine stp ?_ ?_ ?_ ?_ ?_ ?_ ?_ ?_ ?_ ?_ ?_ ?_ ?_ ?_ ?_ ?_ <;> (first | exact Mk.mk | exact trivial | (repeat intro hq))
  all_goals first
    | (rw [if_pos (of_decide_eq_true hq)]; done)
    | (rw [if_neg (of_decide_eq_false hq)]; done)
/-- Bytes that count on from n. -/
def mk (n : Int) (k : Nat) : List UInt8 := (List.range k).map fun j : Nat => toB (n + (j : Int))
theorem mk_len {n : Int} {k : Nat} : (mk n k).length = k := by simp [mk]
theorem mk_get {n : Int} {k i : Nat} (h : i < k) : (mk n k).getD i 0 = toB (n + i) := by simp [mk, h]
theorem mk_set {n : Int} {xs : List UInt8} {i : Nat} (h : i < xs.length) : (mk n i ++ xs.drop i).set i (toB (n + i)) = mk n (i + 1) ++ xs.drop (i + 1) := by
  rw [List.set_append_right _ _ (by simp [mk_len]), mk_len, Nat.sub_self, List.drop_eq_getElem_cons h, List.set_cons_zero]
  simp [mk, List.range_succ]
set_option maxHeartbeats 4000000 in
set_option maxRecDepth 20000 in
theorem markbytesE_ok (e1 : TypeId) (xs : List UInt8) (n : Int) (h0 : 0 ≤ n ∧ n ≤ 1000000000) (hl : xs.length ≤ 16777216) : FnC Tryd.prog 16 [.c (.own e1 .u8 false xs), aI n] [.c (.own e1 .u8 false (mk n xs.length)), aX] (.one (sI (n + xs.length))) := by
  refine FnC_of (fn := Tryd.f16) Tryd.func16 rfl rfl rfl ?_
  refine stp ?_ ?_ ?_ ?_ ?_ ?_ ?_ ?_ ?_ ?_ ?_ ?_ ?_ ?_ ?_ ?_ <;> (first | exact Mk.mk | exact trivial | (repeat intro hq))
  refine W_loopT (fun i : Nat => St.tmpl 20 [(0, .one (.rf 1 .ar)), (1, .one (.d (.i .i64) (n + i))), (5, .one (.d (.i .i64) (i : Int)))] [(1, .rows e1 .u8 false (mk n i ++ xs.drop i))]) (fun i => i ≤ xs.length) (fun i => xs.length - i) 0 (Nat.zero_le _) ?_ ?_
  · refine Wk_tmpl [] ⟨rfl, ?_, rfl, trivial⟩ ⟨?_, trivial⟩ rfl rfl
    · exact congrArg (fun r => SV.one (.d (.i .i64) r)) (by simp : n = n + ((0 : Nat) : Int))
    · exact congrArg (fun r => some (Ob.rows e1 Ty.u8 false r)) (by rfl)
  · intro i hi
    have hlen : (mk n i ++ xs.drop i).length = xs.length := by simp [mk_len]; omega
    refine stp ?_ ?_ ?_ ?_ ?_ ?_ ?_ ?_ ?_ ?_ ?_ ?_ ?_ ?_ ?_ ?_ <;> (first | exact Mk.mk | exact trivial | (repeat intro hq))
    · have hlt : i < xs.length := by simp only [decide_eq_true_eq] at hq; omega
      refine ⟨i + 1, by omega, by omega, Wk_tmpl [] ⟨rfl, ?_, rfl, trivial⟩ ⟨congrArg (fun r => some (Ob.rows e1 Ty.u8 false r)) (mk_set hlt), trivial⟩ rfl rfl⟩
      exact congrArg (fun r => SV.one (.d (.i .i64) r)) (by omega : n + (i : Int) + 1 = n + ((i + 1 : Nat) : Int))
    · have : i = xs.length := by simp only [decide_eq_false_iff_not] at hq; omega
      subst this
      simp
    · have e : i = xs.length := by simp only [decide_eq_false_iff_not] at hq; omega
      rw [e]
set_option maxHeartbeats 4000000 in
set_option maxRecDepth 20000 in
theorem heldbytes_ok (k : Nat) (n : Int) (h0 : 0 ≤ n ∧ n ≤ 1000000000) (hl : k ≤ 16777216) : FnC Tryd.prog 89 [aBy (mk n k), aI n] [aX, aX] (.one (sI (n + k))) := by
  have hlen := mk_len (n := n) (k := k)
  refine FnC_of (fn := Tryd.f89) Tryd.func89 rfl rfl rfl ?_
  refine stp ?_ ?_ ?_ ?_ ?_ ?_ ?_ ?_ ?_ ?_ ?_ ?_ ?_ ?_ ?_ ?_ <;> (first | exact Mk.mk | exact trivial | (repeat intro hq))
  refine W_loopT (fun i : Nat => St.tmpl 22 [(0, .one (.d (.sl .u8) (mk n k))), (1, .one (.d (.i .i64) (n + i))), (5, .one (.d (.i .i64) (i : Int)))] []) (fun i => i ≤ k) (fun i => k - i) 0 (Nat.zero_le _) ?_ ?_
  · refine Wk_tmpl [] ⟨rfl, ?_, rfl, trivial⟩ trivial rfl rfl
    exact congrArg (fun r => SV.one (.d (.i .i64) r)) (by simp : n = n + ((0 : Nat) : Int))
  · intro i hi
    refine stp ?_ ?_ ?_ ?_ ?_ ?_ ?_ ?_ ?_ ?_ ?_ ?_ ?_ ?_ ?_ ?_ <;> (first | exact Mk.mk | exact trivial | (repeat intro hq))
    · exfalso
      have hlt : i < k := by simp_all
      have e : (mk n k).getD (i : Int).toNat (dflt Ty.u8) = toB (n + i) := mk_get hlt
      rw [e] at hq
      simp at hq
    · have hlt : i < k := by simp_all
      refine ⟨i + 1, by omega, by omega, Wk_tmpl [] ⟨rfl, ?_, rfl, trivial⟩ trivial rfl rfl⟩
      exact congrArg (fun r => SV.one (.d (.i .i64) r)) (by omega : n + (i : Int) + 1 = n + ((i + 1 : Nat) : Int))
    · have e : i = k := by simp only [decide_eq_false_iff_not] at hq; omega
      rw [e]
theorem heldbytesL_ok (L : List UInt8) (k : Nat) (n : Int) (h : L = mk n k) (h0 : 0 ≤ n ∧ n ≤ 1000000000) (hl : k ≤ 16777216) : FnC Tryd.prog 89 [aBy L, aI n] [aX, aX] (.one (sI (n + k))) := by
  subst h; exact heldbytes_ok k n h0 hl
/-- What is left of a measure. -/
def szl (n : Int) (k : Nat) : Int := if n - k < 0 then -1 else n - k
/-- The first i of xs, and what stood behind. -/
def partG {α : Type} (d : α) (xs : List α) (i : Nat) : List α := xs.take i ++ List.replicate (xs.length - i) d
theorem partG_len {α : Type} {d : α} {xs : List α} {i : Nat} (h : i ≤ xs.length) : (partG d xs i).length = xs.length := by
  simp [partG]; omega
theorem partG_set {α : Type} {d d' : α} {xs : List α} {i : Nat} (h : i < xs.length) : (partG d xs i).set i (xs.getD i d') = partG d xs (i + 1) := by
  unfold partG
  rw [List.set_append_right _ _ (by simp; omega)]
  obtain ⟨k, hk⟩ : ∃ k, xs.length - i = k + 1 := ⟨xs.length - i - 1, by omega⟩
  rw [hk, show i - (xs.take i).length = 0 by simp; omega, List.replicate_succ, List.set_cons_zero, List.take_add_one, show xs.length - (i + 1) = k by omega]
  simp only [List.getElem?_eq_getElem h, Option.toList_some, List.append_assoc, List.singleton_append, List.getD_eq_getElem?_getD, Option.getD_some]
end Go.LX

set_option linter.unusedVariables false
set_option linter.unusedSimpArgs false
namespace Go.LX
open Go.Proofs
attribute [local irreducible] W WO OpW RW EndQ
/-- What a size leaves: nothing below zero. -/
def szL (left n : Int) : Int := if left - n < 0 then -1 else left - n
theorem szL_neg {n m : Int} (h : szL n m < 0) : szL n m = -1 := by
  unfold szL at h ⊢
  split <;> rename_i h2
  · rfl
  · rw [if_neg h2] at h; omega
theorem szL_pos {n m : Int} (h : 0 ≤ szL n m) : szL n m = n - m ∧ m ≤ n := by
  unfold szL at h ⊢
  split <;> rename_i h2
  · rw [if_pos h2] at h; omega
  · omega
theorem szL_big {n : Nat} (h : 1048576 < n) : szL 1048576 n = -1 := by unfold szL; rw [if_pos (by omega)]
theorem szL_small {n : Nat} (h : n ≤ 1048576) : szL 1048576 n = 1048576 - n := by unfold szL; rw [if_neg (by omega)]
set_option maxHeartbeats 4000000 in
set_option maxRecDepth 20000 in
theorem szbytes_ok (xs : List UInt8) (n : Int) (h0 : 0 ≤ n ∧ n ≤ 1000000000) (hl : xs.length ≤ 9223372036854775807) : FnC Tryd.prog 115 [aBy xs, aI n] [aX, aX] (.one (sI (szL n xs.length))) := by
  refine FnC_of (fn := Tryd.f115) Tryd.func115 rfl rfl rfl ?_
  refine stp ?_ ?_ ?_ ?_ ?_ ?_ ?_ ?_ ?_ ?_ ?_ ?_ ?_ ?_ ?_ ?_ <;> (first | exact Mk.mk | exact trivial | (repeat intro hq))
  · exact (if_pos (by simpa using hq)).symm
  · exact (if_neg (by simpa using hq)).symm
abbrev aCh (d : List UInt8) : SA := .ag [sBy d]
abbrev aCh0 : SA := .ag [.any]
set_option maxHeartbeats 4000000 in
set_option maxRecDepth 20000 in
theorem szchunk_ok (d : List UInt8) (n : Int) (h0 : 0 ≤ n ∧ n ≤ 1000000000) (hl : d.length ≤ 9223372036854775807) : FnC Tryd.prog 90 [aCh d, aI n] [aCh0, aX] (.one (sI (szL n d.length))) := by
  refine FnC_of (fn := Tryd.f90) Tryd.func90 rfl rfl rfl ?_
  have zD1 := fun {z0} {z1} (zh : _ ∧ _) => szbytes_ok z0 z1 zh.1 zh.2
  refine stp ?_ ?_ ?_ ?_ ?_ ?_ ?_ ?_ ?_ ?_ ?_ ?_ ?_ ?_ ?_ ?_ <;> (first | exact Mk.mk | exact trivial | (repeat intro hq))
  exact (szL_neg (by simpa using hq)).symm
theorem fl_take {cs : List (List UInt8)} {i : Nat} (h : i < cs.length) (d : List UInt8) : (cs.take (i + 1)).flatten.length = (cs.take i).flatten.length + (cs.getD i d).length := by
  rw [take_one h d]; simp
theorem fl_le {cs : List (List UInt8)} {i : Nat} : (cs.take i).flatten.length ≤ cs.flatten.length := flat_take
theorem fl_mem {cs : List (List UInt8)} {d : List UInt8} (h : d ∈ cs) : d.length ≤ cs.flatten.length := by
  induction cs with
  | nil => simp at h
  | cons c cs ih =>
    rw [List.flatten_cons, List.length_append]
    rcases List.mem_cons.1 h with rfl | h
    · omega
    · have := ih h; omega
set_option maxHeartbeats 4000000 in
set_option maxRecDepth 20000 in
theorem szchunks_ok (xs : List (List UInt8)) (n : Int) (h0 : 0 ≤ n ∧ n ≤ 1000000000) (hl : xs.length ≤ 9223372036854775807) (hw : ∀ e ∈ xs, e.length ≤ 9223372036854775807) : FnC Tryd.prog 44 [aChs xs, aI n] [aX, aX] (.one (sI (szL n (xs.length + xs.flatten.length : Nat)))) := by
  refine FnC_of (fn := Tryd.f44) Tryd.func44 rfl rfl rfl ?_
  refine stp ?_ ?_ ?_ ?_ ?_ ?_ ?_ ?_ ?_ ?_ ?_ ?_ ?_ ?_ ?_ ?_ <;> (first | exact Mk.mk | exact trivial | (repeat intro hq))
  · have hn : n - xs.length < 0 := by simpa using hq
    exact (if_pos (by omega)).symm
  · have hn : ¬ n - xs.length < 0 := by simpa using hq
    refine W_loopT (fun i : Nat => St.tmpl 27 [(0, .one (.d (.sl TCh) xs)), (1, .one (.d (.i .i64) (n - xs.length - (xs.take i).flatten.length))), (5, .one (.d (.i .i64) (i : Int)))] []) (fun i => i ≤ xs.length ∧ 0 ≤ n - xs.length - (xs.take i).flatten.length) (fun i => xs.length - i) 0 ⟨Nat.zero_le _, by simp; omega⟩ ?_ ?_
    · refine Wk_tmpl [] ⟨rfl, ?_, rfl, trivial⟩ trivial rfl rfl
      refine congrArg (fun r => SV.one (C.d (Ty.i IntKind.i64) r)) ?_
      simp
    · rintro i ⟨hi, hm⟩
      have hwi : i < xs.length → (xs.getD (i : Int).toNat (dflt TCh)).length ≤ 9223372036854775807 := fun h => by
        show (xs.getD i (dflt TCh)).length ≤ _
        rw [List.getD_eq_getElem?_getD, List.getElem?_eq_getElem h]
        exact hw _ (List.getElem_mem h)
      have hst := fun h : i < xs.length => fl_take h (dflt TCh)
      have hle := fl_le (cs := xs) (i := i + 1)
      have zD1 := fun {z0} {z1} (zh : _ ∧ _) => szchunk_ok z0 z1 zh.1 zh.2
      refine stp ?_ ?_ ?_ ?_ ?_ ?_ ?_ ?_ ?_ ?_ ?_ ?_ ?_ ?_ ?_ ?_ <;> (first | exact Mk.mk | exact trivial | (repeat intro hq))
      · rename_i h1
        have hlt : i < xs.length := by simpa using h1
        have h2 : szL (n - xs.length - (xs.take i).flatten.length) (xs.getD i (dflt TCh)).length < 0 := by simpa using hq
        have h3 := hst hlt
        unfold szL at h2 ⊢
        split at h2
        · rw [if_pos (by omega)]
        · omega
      · rename_i h1
        have hlt : i < xs.length := by simpa using h1
        have h2 : ¬ szL (n - xs.length - (xs.take i).flatten.length) (xs.getD i (dflt TCh)).length < 0 := by simpa using hq
        have h3 := hst hlt
        obtain ⟨h4, h5⟩ := szL_pos (n := n - xs.length - (xs.take i).flatten.length) (m := (xs.getD i (dflt TCh)).length) (by omega)
        refine ⟨i + 1, by omega, ⟨by omega, by omega⟩, Wk_tmpl [] ⟨rfl, ?_, rfl, trivial⟩ trivial rfl rfl⟩
        refine congrArg (fun r => SV.one (C.d (Ty.i IntKind.i64) r)) ?_
        refine h4.trans ?_
        omega
      · have e : i = xs.length := by simp at hq; omega
        have e2 : (xs.take i).flatten.length = xs.flatten.length := by rw [e, List.take_length]
        rw [e2] at hm ⊢
        have e3 : (i : Int) = xs.length := by omega
        show (_ : Int) = _
        unfold szL
        split <;> rename_i h9 <;> omega
abbrev aRp (cs : List (List UInt8)) : SA := .ag [sChs cs]
abbrev aRp0 : SA := .ag [.any]
set_option maxHeartbeats 4000000 in
set_option maxRecDepth 20000 in
theorem szrope_ok (xs : List (List UInt8)) (n : Int) (h0 : 0 ≤ n ∧ n ≤ 1000000000) (hl : xs.length ≤ 9223372036854775807) (hw : ∀ e ∈ xs, e.length ≤ 9223372036854775807) : FnC Tryd.prog 8 [aRp xs, aI n] [aRp0, aX] (.one (sI (szL n (xs.length + xs.flatten.length : Nat)))) := by
  have k1 := fun m h => szchunks_ok xs m h hl hw
  refine FnC_of (fn := Tryd.f8) Tryd.func8 rfl rfl rfl ?_
  have zD1 := fun {z0} zh => k1 z0 zh
  refine stp ?_ ?_ ?_ ?_ ?_ ?_ ?_ ?_ ?_ ?_ ?_ ?_ ?_ ?_ ?_ ?_ <;> (first | exact Mk.mk | exact trivial | (repeat intro hq))
  exact (szL_neg (by simpa using hq)).symm
set_option maxHeartbeats 4000000 in
set_option maxRecDepth 20000 in
theorem tochunk_ok (d : List UInt8) (hl : d.length ≤ 16777216) : FnC Tryd.prog 94 [aCh d] [aCh0] (.ag [oBy d]) := by
  refine FnC_of (fn := Tryd.f94) Tryd.func94 rfl rfl rfl ?_
  have zD1 := fun {z0} zh => tobytes_ok z0 zh
  refine stp ?_ ?_ ?_ ?_ ?_ ?_ ?_ ?_ ?_ ?_ ?_ ?_ ?_ ?_ ?_ ?_ <;> (first | exact Mk.mk | exact trivial | (repeat intro hq))
set_option maxHeartbeats 4000000 in
set_option maxRecDepth 20000 in
theorem tochunks_ok (xs : List (List UInt8)) (hl : xs.length ≤ 1048576) (hw : ∀ e ∈ xs, e.length ≤ 1048576) : FnC Tryd.prog 50 [aChs xs] [aX] (.one (oChs xs)) := by
  refine FnC_of (fn := Tryd.f50) Tryd.func50 rfl rfl rfl ?_
  refine stp ?_ ?_ ?_ ?_ ?_ ?_ ?_ ?_ ?_ ?_ ?_ ?_ ?_ ?_ ?_ ?_ <;> (first | exact Mk.mk | exact trivial | (repeat intro hq))
  refine W_loopT (fun i : Nat => St.tmpl 23 [(0, .one (.d (.sl TCh) xs)), (3, .one (.rf 8000 .ar)), (4, .one (.d (.i .i64) (i : Int)))] [(8000, .rows 78 TCh true (partG [] xs i))]) (fun i => i ≤ xs.length) (fun i => xs.length - i) 0 (Nat.zero_le _) ?_ ?_
  · refine Wk_tmpl [] ⟨rfl, rfl, rfl, trivial⟩ ⟨?_, trivial⟩ rfl rfl
    refine congrArg (fun r => some (Ob.rows 78 TCh true r)) ?_
    simp [partG]
    rfl
  · intro i hi
    have hwi : i < xs.length → (xs.getD (i : Int).toNat (dflt TCh)).length ≤ 16777216 := fun h => by
      show (xs.getD i (dflt TCh)).length ≤ _
      rw [List.getD_eq_getElem?_getD, List.getElem?_eq_getElem h]
      exact Nat.le_trans (hw _ (List.getElem_mem h)) (by decide)
    have hlen := partG_len (d := ([] : List UInt8)) hi
    have zD1 := fun {z0} zh => tochunk_ok z0 zh
    refine stp ?_ ?_ ?_ ?_ ?_ ?_ ?_ ?_ ?_ ?_ ?_ ?_ ?_ ?_ ?_ ?_ <;> (first | exact Mk.mk | exact trivial | (repeat intro hq))
    · have hlt : i < xs.length := by simpa using hq
      exact ⟨i + 1, by omega, by omega, Wk_tmpl [] ⟨rfl, rfl, rfl, trivial⟩ ⟨congrArg (fun r => some (Ob.rows 78 TCh true r)) (partG_set (d := ([] : List UInt8)) hlt), trivial⟩ rfl rfl⟩
    · have : i = xs.length := by simp at hq; omega
      simp [partG, this]
set_option maxHeartbeats 4000000 in
set_option maxRecDepth 20000 in
theorem torope_ok (xs : List (List UInt8)) (hl : xs.length ≤ 1048576) (hw : ∀ e ∈ xs, e.length ≤ 1048576) : FnC Tryd.prog 10 [aRp xs] [aRp0] (.ag [oChs xs]) := by
  refine FnC_of (fn := Tryd.f10) Tryd.func10 rfl rfl rfl ?_
  have zD1 := fun (zh : True) => tochunks_ok xs hl hw
  refine stp ?_ ?_ ?_ ?_ ?_ ?_ ?_ ?_ ?_ ?_ ?_ ?_ ?_ ?_ ?_ ?_ <;> (first | exact Mk.mk | exact trivial | (repeat intro hq))
set_option maxHeartbeats 4000000 in
set_option maxRecDepth 20000 in
theorem eqchunk_ok (d : List UInt8) (hl : d.length ≤ 16777216) : FnC Tryd.prog 101 [aCh d, aCh d] [aCh0, aCh0] (.one (sB true)) := by
  refine FnC_of (fn := Tryd.f101) Tryd.func101 rfl rfl rfl ?_
  have zD1 := fun zh => eqbytes_ok d d zh rfl
  refine stp ?_ ?_ ?_ ?_ ?_ ?_ ?_ ?_ ?_ ?_ ?_ ?_ ?_ ?_ ?_ ?_ <;> (first | exact Mk.mk | exact trivial | (repeat intro hq))
set_option maxHeartbeats 4000000 in
set_option maxRecDepth 20000 in
theorem eqchunks_ok (xs ys : List (List UInt8)) (hl : xs.length ≤ 1048576) (hw : ∀ e ∈ xs, e.length ≤ 1048576) (h : xs = ys) : FnC Tryd.prog 55 [aChs xs, aChs ys] [aX, aX] (.one (sB true)) := by
  subst h
  refine FnC_of (fn := Tryd.f55) Tryd.func55 rfl rfl rfl ?_
  refine stp ?_ ?_ ?_ ?_ ?_ ?_ ?_ ?_ ?_ ?_ ?_ ?_ ?_ ?_ ?_ ?_ <;> (first | exact Mk.mk | exact trivial | (repeat intro hq))
  refine W_loopT (fun i : Nat => St.tmpl 27 [(0, .one (.d (.sl TCh) xs)), (1, .one (.d (.sl TCh) xs)), (5, .one (.d (.i .i64) (i : Int)))] []) (fun i => i ≤ xs.length) (fun i => xs.length - i) 0 (Nat.zero_le _) ?_ ?_
  · exact Wk_tmpl [] ⟨rfl, rfl, rfl, trivial⟩ trivial rfl rfl
  · intro i hi
    have hwi : i < xs.length → (xs.getD (i : Int).toNat (dflt TCh)).length ≤ 16777216 := fun h => by
      show (xs.getD i (dflt TCh)).length ≤ _
      rw [List.getD_eq_getElem?_getD, List.getElem?_eq_getElem h]
      exact Nat.le_trans (hw _ (List.getElem_mem h)) (by decide)
    have zD1 := fun {z0} zh => eqchunk_ok z0 zh
    refine stp ?_ ?_ ?_ ?_ ?_ ?_ ?_ ?_ ?_ ?_ ?_ ?_ ?_ ?_ ?_ ?_ <;> (first | exact Mk.mk | exact trivial | (repeat intro hq))
    have hlt : i < xs.length := by simp_all
    exact ⟨i + 1, by omega, by omega, Wk_tmpl [] ⟨rfl, rfl, rfl, trivial⟩ trivial rfl rfl⟩
set_option maxHeartbeats 4000000 in
set_option maxRecDepth 20000 in
theorem eqrope_ok (xs : List (List UInt8)) (hl : xs.length ≤ 1048576) (hw : ∀ e ∈ xs, e.length ≤ 1048576) : FnC Tryd.prog 13 [aRp xs, aRp xs] [aRp0, aRp0] (.one (sB true)) := by
  refine FnC_of (fn := Tryd.f13) Tryd.func13 rfl rfl rfl ?_
  have zD1 := fun (zh : True) => eqchunks_ok xs xs hl hw rfl
  refine stp ?_ ?_ ?_ ?_ ?_ ?_ ?_ ?_ ?_ ?_ ?_ ?_ ?_ ?_ ?_ ?_ <;> (first | exact Mk.mk | exact trivial | (repeat intro hq))
/-- Chunks whose bytes count on from n. -/
def mkC : Int → List (List UInt8) → List (List UInt8)
  | _, [] => []
  | n, d :: r => mk n d.length :: mkC (n + d.length) r
theorem mkC_len : ∀ {xs : List (List UInt8)} {n : Int}, (mkC n xs).length = xs.length
  | [], _ => rfl
  | _ :: _, _ => by simp [mkC, mkC_len]
theorem mkC_app : ∀ {xs ys : List (List UInt8)} {n : Int}, mkC n (xs ++ ys) = mkC n xs ++ mkC (n + xs.flatten.length) ys
  | [], ys, n => by simp [mkC]
  | x :: xs, ys, n => by
    simp only [List.cons_append, mkC, mkC_app (xs := xs), List.flatten_cons, List.length_append]
    congr 3
    push_cast
    omega
theorem mkC_set {xs : List (List UInt8)} {n : Int} {i : Nat} {d : List UInt8} (h : i < xs.length) : (mkC n (xs.take i) ++ xs.drop i).set i (mk (n + (xs.take i).flatten.length) (xs.getD i d).length) = mkC n (xs.take (i + 1)) ++ xs.drop (i + 1) := by
  have hl : (mkC n (xs.take i)).length = i := by rw [mkC_len]; simp; omega
  rw [List.set_append_right _ _ (by omega), hl, Nat.sub_self, List.drop_eq_getElem_cons h, List.set_cons_zero, take_one h d, mkC_app]
  simp only [List.append_assoc, mkC, List.cons_append, List.nil_append]
theorem mkC_get {xs : List (List UInt8)} {n : Int} {i : Nat} {d : List UInt8} (h : i < xs.length) : (mkC n (xs.take i) ++ xs.drop i).getD i d = xs.getD i d := by
  have hl : (mkC n (xs.take i)).length = i := by rw [mkC_len]; simp; omega
  simp [List.getElem?_append, hl]
theorem mkC_at {xs : List (List UInt8)} {n : Int} {i : Nat} {d : List UInt8} (h : i < xs.length) : (mkC n xs).getD i d = mk (n + (xs.take i).flatten.length) (xs.getD i d).length := by
  have e : xs = xs.take i ++ xs.getD i d :: xs.drop (i + 1) := by
    rw [List.getD_eq_getElem?_getD, List.getElem?_eq_getElem h, Option.getD_some]
    rw [← List.drop_eq_getElem_cons h, List.take_append_drop]
  have e2 : mkC n xs = mkC n (xs.take i) ++ mkC (n + (xs.take i).flatten.length) (xs.getD i d :: xs.drop (i + 1)) := by
    conv => lhs; rw [e]
    rw [mkC_app]
  have hl : (mkC n (xs.take i)).length = i := by rw [mkC_len]; simp; omega
  rw [e2, List.getD_eq_getElem?_getD, List.getElem?_append_right (by omega), hl, Nat.sub_self, mkC]
  simp only [List.getElem?_cons_zero, Option.getD_some]
set_option maxHeartbeats 4000000 in
set_option maxRecDepth 20000 in
theorem markchunks_ok (xs : List (List UInt8)) (n : Int) (h0 : 0 ≤ n ∧ n ≤ 100000000) (hl : xs.length ≤ 1048576) (hs : xs.flatten.length ≤ 1048576) : FnC Tryd.prog 56 [.c (oChs xs), aI n] [.c (oChs (mkC n xs)), aX] (.one (sI (n + xs.flatten.length))) := by
  refine FnC_of (fn := Tryd.f56) Tryd.func56 rfl rfl rfl ?_
  refine stp ?_ ?_ ?_ ?_ ?_ ?_ ?_ ?_ ?_ ?_ ?_ ?_ ?_ ?_ ?_ ?_ <;> (first | exact Mk.mk | exact trivial | (repeat intro hq))
  refine W_loopT (fun i : Nat => St.tmpl 20 [(0, .one (.rf 1 .ar)), (1, .one (.d (.i .i64) (n + (xs.take i).flatten.length))), (5, .one (.d (.i .i64) (i : Int)))] [(1, .rows 78 TCh true (mkC n (xs.take i) ++ xs.drop i))]) (fun i => i ≤ xs.length) (fun i => xs.length - i) 0 (Nat.zero_le _) ?_ ?_
  · refine Wk_tmpl [] ⟨rfl, ?_, rfl, trivial⟩ ⟨?_, trivial⟩ rfl rfl
    · refine congrArg (fun r => SV.one (C.d (Ty.i IntKind.i64) r)) ?_
      simp
    · exact congrArg (fun r => some (Ob.rows 78 TCh true r)) rfl
  · intro i hi
    have hlen : (mkC n (xs.take i) ++ xs.drop i).length = xs.length := by simp [mkC_len]; omega
    have hst := fun h : i < xs.length => fl_take h (dflt TCh)
    have hle := fl_le (cs := xs) (i := i + 1)
    have hle0 := fl_le (cs := xs) (i := i)
    have hget := fun h : i < xs.length => mkC_get (n := n) (d := dflt TCh) h
    have zN1 := fun zt {z0} {z1} (zh : _ ∧ _) => markbytesE_ok zt z0 z1 zh.1 zh.2
    refine stpH ?_ ?_ ?_ ?_ ?_ ?_ ?_ ?_ ?_ ?_ ?_ ?_ ?_ ?_ ?_ ?_ <;> (first | exact Mk.mk | exact trivial | (repeat intro hq))
    · have hlt : i < xs.length := by have : (i : Int) < ((mkC n (xs.take i) ++ xs.drop i).length : Int) := of_decide_eq_true hq; omega
      show List.length (List.getD (mkC n (xs.take i) ++ xs.drop i) i (dflt TCh)) ≤ _
      rw [hget hlt]
      have := hst hlt
      omega
    · have hlt : i < xs.length := by have : (i : Int) < ((mkC n (xs.take i) ++ xs.drop i).length : Int) := of_decide_eq_true hq; omega
      have h3 := hst hlt
      refine ⟨i + 1, by omega, by omega, Wk_tmpl [] ⟨rfl, ?_, rfl, trivial⟩ ⟨congrArg (fun r => some (Ob.rows 78 TCh true r)) ?_, trivial⟩ rfl rfl⟩
      · refine congrArg (fun r => SV.one (C.d (Ty.i IntKind.i64) r)) ?_
        show n + ((xs.take i).flatten.length : Int) + (List.length (List.getD (mkC n (xs.take i) ++ xs.drop i) i (dflt TCh)) : Nat) = n + ((xs.take (i + 1)).flatten.length : Nat)
        rw [hget hlt]
        omega
      · show List.set (mkC n (xs.take i) ++ xs.drop i) i (mk _ (List.getD (mkC n (xs.take i) ++ xs.drop i) i (dflt TCh)).length) = _
        rw [hget hlt]
        exact mkC_set hlt
    · have e : i = xs.length := by have : ¬ (i : Int) < ((mkC n (xs.take i) ++ xs.drop i).length : Int) := of_decide_eq_false hq; omega
      rw [e]; simp
    · have e : i = xs.length := by have : ¬ (i : Int) < ((mkC n (xs.take i) ++ xs.drop i).length : Int) := of_decide_eq_false hq; omega
      rw [e, List.take_length]
set_option maxHeartbeats 4000000 in
set_option maxRecDepth 20000 in
theorem markrope_ok (xs : List (List UInt8)) (n : Int) (h0 : 0 ≤ n ∧ n ≤ 100000000) (hl : xs.length ≤ 1048576) (hs : xs.flatten.length ≤ 1048576) : FnC Tryd.prog 15 [.ag [oChs xs], aI n] [.ag [oChs (mkC n xs)], aX] (.one (sI (n + xs.flatten.length))) := by
  refine FnC_of (fn := Tryd.f15) Tryd.func15 rfl rfl rfl ?_
  have zM1 := fun {z0} (zh : _ ∧ _ ∧ _) => markchunks_ok xs z0 zh.1 zh.2.1 zh.2.2
  refine stp ?_ ?_ ?_ ?_ ?_ ?_ ?_ ?_ ?_ ?_ ?_ ?_ ?_ ?_ ?_ ?_ <;> (first | exact Mk.mk | exact trivial | (repeat intro hq))
set_option maxHeartbeats 4000000 in
set_option maxRecDepth 20000 in
theorem heldchunks_ok (xs : List (List UInt8)) (n : Int) (h0 : 0 ≤ n ∧ n ≤ 100000000) (hl : xs.length ≤ 1048576) (hs : xs.flatten.length ≤ 1048576) : FnC Tryd.prog 57 [aChs (mkC n xs), aI n] [aX, aX] (.one (sI (n + xs.flatten.length))) := by
  have hlen := mkC_len (xs := xs) (n := n)
  refine FnC_of (fn := Tryd.f57) Tryd.func57 rfl rfl rfl ?_
  refine stp ?_ ?_ ?_ ?_ ?_ ?_ ?_ ?_ ?_ ?_ ?_ ?_ ?_ ?_ ?_ ?_ <;> (first | exact Mk.mk | exact trivial | (repeat intro hq))
  refine W_loopT (fun i : Nat => St.tmpl 22 [(0, .one (.d (.sl TCh) (mkC n xs))), (1, .one (.d (.i .i64) (n + (xs.take i).flatten.length))), (5, .one (.d (.i .i64) (i : Int)))] []) (fun i => i ≤ xs.length) (fun i => xs.length - i) 0 (Nat.zero_le _) ?_ ?_
  · refine Wk_tmpl [] ⟨rfl, ?_, rfl, trivial⟩ trivial rfl rfl
    refine congrArg (fun r => SV.one (C.d (Ty.i IntKind.i64) r)) ?_
    simp
  · intro i hi
    have hst := fun h : i < xs.length => fl_take h (dflt TCh)
    have hle := fl_le (cs := xs) (i := i + 1)
    have hle0 := fl_le (cs := xs) (i := i)
    have hat := fun h : i < xs.length => mkC_at (n := n) (d := dflt TCh) h
    have hLL : List.length (mkC n xs) = xs.length := hlen
    have zD1 := fun {z0} {z1} (zh : _ ∧ _ ∧ _) => heldbytesL_ok z0 (xs.getD i (dflt TCh)).length z1 zh.1 zh.2.1 zh.2.2
    refine stp ?_ ?_ ?_ ?_ ?_ ?_ ?_ ?_ ?_ ?_ ?_ ?_ ?_ ?_ ?_ ?_ <;> (first | exact Mk.mk | exact trivial | (repeat intro hq))
    · have hlt : i < xs.length := by have : (i : Int) < ((mkC n xs).length : Int) := of_decide_eq_true (by assumption); omega
      exact hat hlt
    · have hlt : i < xs.length := by have : (i : Int) < ((mkC n xs).length : Int) := of_decide_eq_true (by assumption); omega
      have h3 := hst hlt
      refine ⟨i + 1, by omega, by omega, Wk_tmpl [] ⟨rfl, ?_, rfl, trivial⟩ trivial rfl rfl⟩
      refine congrArg (fun r => SV.one (C.d (Ty.i IntKind.i64) r)) ?_
      show n + ((xs.take i).flatten.length : Int) + ((xs.getD i (dflt TCh)).length : Nat) = n + ((xs.take (i + 1)).flatten.length : Nat)
      omega
    · have e : i = xs.length := by have : ¬ (i : Int) < ((mkC n xs).length : Int) := of_decide_eq_false hq; omega
      rw [e, List.take_length]
set_option maxHeartbeats 4000000 in
set_option maxRecDepth 20000 in
theorem heldrope_ok (xs : List (List UInt8)) (n : Int) (h0 : 0 ≤ n ∧ n ≤ 100000000) (hl : xs.length ≤ 1048576) (hs : xs.flatten.length ≤ 1048576) : FnC Tryd.prog 17 [aRp (mkC n xs), aI n] [aRp0, aX] (.one (sI (n + xs.flatten.length))) := by
  refine FnC_of (fn := Tryd.f17) Tryd.func17 rfl rfl rfl ?_
  have zD1 := fun (zh : _ ∧ _ ∧ _) => heldchunks_ok xs n zh.1 zh.2.1 zh.2.2
  refine stp ?_ ?_ ?_ ?_ ?_ ?_ ?_ ?_ ?_ ?_ ?_ ?_ ?_ ?_ ?_ ?_ <;> (first | exact Mk.mk | exact trivial | (repeat intro hq))
end Go.LX

