/- A part of the proof of the statement in the row text. -/
import Derived.Test.YtkpohcfohnmejaaDoorLzUF
import Derived.Test.YtkpohcfohnmejaaDoorLzUB
import Derived.Test.YtkpohcfohnmejaaDoorLzUE
import Derived.Test.YtkpohcfohnmejaaDoorLxFrz
set_option linter.unusedVariables false
set_option linter.unusedSimpArgs false
namespace Go.LX
open Go.Proofs
attribute [local irreducible] W WO OpW RW EndQ
/-- The numbers of a text. -/
noncomputable def mB (p : List UInt8) : Int := if tokM p = true then (p.length : Int) else 0
noncomputable def mR (p : List UInt8) : Int := if tokM p = true then (rcM p : Int) else 0
noncomputable def mL (p : List UInt8) : Int := if tokM p = true then (p.count 10 : Int) else 0
abbrev aMe (b r l : Int) : SA := .ag [sI b, sI r, sI l]
abbrev aMe0 : SA := .ag [.any, .any, .any]
theorem rcU_le : ∀ {n : Nat} {p : List UInt8}, rcU n p ≤ n
  | 0, p => Nat.le_refl _
  | n + 1, p => by
    rw [rcU]
    split
    · omega
    · have := rcU_le (n := n) (p := p.drop (stU p)); omega
theorem m_in (p : List UInt8) : (0 ≤ mB p ∧ mB p ≤ 400) ∧ (0 ≤ mR p ∧ mR p ≤ 400) ∧ (0 ≤ mL p ∧ mL p ≤ 400) := by
  unfold mB mR mL
  cases h : tokM p with
  | false => simp
  | true =>
    have h1 := tokM_len h
    have h2 := rcU_le (n := p.length) (p := p)
    have h3 := List.count_le_length (a := (10 : UInt8)) (l := p)
    simp only [if_true]
    unfold rcM
    omega
set_option maxHeartbeats 4000000 in
set_option maxRecDepth 20000 in
theorem imeas_ok (xs : List UInt8) (hl : xs.length ≤ 400) (hv : vld xs = true) : FnC Tryd.prog 110 [aBy xs] [aX] (.ag [sI xs.length, sI (rcM xs), sI (xs.count 10)]) := by
  have k1 := runecount_ok xs (by omega)
  rw [rc_eq hv] at k1
  have k2 := count_ok xs 10 (by omega)
  refine FnC_of (fn := Tryd.f110) Tryd.func110 rfl rfl rfl ?_
  have zD1 := fun (zh : True) => k1
  have zE1 := fun (zh : True) => k2
  refine stp ?_ ?_ ?_ ?_ ?_ ?_ ?_ ?_ ?_ ?_ ?_ ?_ ?_ ?_ ?_ ?_ <;> (first | exact Mk.mk | exact trivial | (repeat intro hq))
set_option maxHeartbeats 4000000 in
set_option maxRecDepth 20000 in
theorem imeasof_ok (xs : List UInt8) (hl : xs.length ≤ 16777216) : FnC Tryd.prog 68 [aBy xs] [aX] (.ag [sI (mB xs), sI (mR xs), sI (mL xs)]) := by
  have k1 := istext_ok xs hl
  unfold mB mR mL
  cases h : tokM xs with
  | false =>
    rw [h] at k1
    refine FnC_of (fn := Tryd.f68) Tryd.func68 rfl rfl rfl ?_
    have zD1 := fun (zh : True) => k1
    refine stp ?_ ?_ ?_ ?_ ?_ ?_ ?_ ?_ ?_ ?_ ?_ ?_ ?_ ?_ ?_ ?_ <;> (first | exact Mk.mk | exact trivial | (repeat intro hq))
  | true =>
    rw [h] at k1
    have k2 := imeas_ok xs (tokM_len h) (tok_vld h)
    refine FnC_of (fn := Tryd.f68) Tryd.func68 rfl rfl rfl ?_
    have zD1 := fun (zh : True) => k1
    have zD2 := fun (zh : True) => k2
    refine stp ?_ ?_ ?_ ?_ ?_ ?_ ?_ ?_ ?_ ?_ ?_ ?_ ?_ ?_ ?_ ?_ <;> (first | exact Mk.mk | exact trivial | (repeat intro hq))
set_option maxHeartbeats 4000000 in
set_option maxRecDepth 20000 in
theorem ichunkstext1_ok (cs : List (List UInt8)) (hn : cs.length ≤ 16777216) (hl : ∀ d ∈ cs, d.length ≤ 16777216) : FnC Tryd.prog 65 [aChs cs] [aX] (.one (oBy (chT cs))) := by
  have k1 := iarechunks_ok cs hn hl
  cases h : chK cs 0 with
  | false =>
    rw [chT, if_neg (by rw [h]; simp)]
    rw [h] at k1
    refine FnC_of (fn := Tryd.f65) Tryd.func65 rfl rfl rfl ?_
    have zD1 := fun (zh : True) => k1
    refine stp ?_ ?_ ?_ ?_ ?_ ?_ ?_ ?_ ?_ ?_ ?_ ?_ ?_ ?_ ?_ ?_ <;> (first | exact Mk.mk | exact trivial | (repeat intro hq))
  | true =>
    rw [chT, if_pos h]
    rw [h] at k1
    have k2 := ichunkstext_ok cs (Nat.le_trans (rp_iff.1 h).l (by decide)) hn
    refine FnC_of (fn := Tryd.f65) Tryd.func65 rfl rfl rfl ?_
    have zD1 := fun (zh : True) => k1
    have zD2 := fun (zh : True) => k2
    refine stp ?_ ?_ ?_ ?_ ?_ ?_ ?_ ?_ ?_ ?_ ?_ ?_ ?_ ?_ ?_ ?_ <;> (first | exact Mk.mk | exact trivial | (repeat intro hq))
set_option maxHeartbeats 4000000 in
set_option maxRecDepth 20000 in
theorem iropetext_ok (cs : List (List UInt8)) (hn : cs.length ≤ 16777216) (hl : ∀ d ∈ cs, d.length ≤ 16777216) : FnC Tryd.prog 24 [aRp cs] [aRp0] (.one (oBy (chT cs))) := by
  have k1 := ichunkstext1_ok cs hn hl
  refine FnC_of (fn := Tryd.f24) Tryd.func24 rfl rfl rfl ?_
  have zD1 := fun (zh : True) => k1
  refine stp ?_ ?_ ?_ ?_ ?_ ?_ ?_ ?_ ?_ ?_ ?_ ?_ ?_ ?_ ?_ ?_ <;> (first | exact Mk.mk | exact trivial | (repeat intro hq))
set_option maxHeartbeats 4000000 in
set_option maxRecDepth 20000 in
theorem iropemeas_ok (cs : List (List UInt8)) (hn : cs.length ≤ 16777216) (hl : ∀ d ∈ cs, d.length ≤ 16777216) : FnC Tryd.prog 26 [aRp cs] [aRp0] (.ag [sI (mB (chT cs)), sI (mR (chT cs)), sI (mL (chT cs))]) := by
  have k1 := iropetext_ok cs hn hl
  have hT := chT_len (cs := cs)
  have k2 := imeasof_ok (chT cs) (by omega)
  refine FnC_of (fn := Tryd.f26) Tryd.func26 rfl rfl rfl ?_
  have zD1 := fun (zh : True) => k1
  have zE1 := fun (zh : True) => k2
  refine stp ?_ ?_ ?_ ?_ ?_ ?_ ?_ ?_ ?_ ?_ ?_ ?_ ?_ ?_ ?_ ?_ <;> (first | exact Mk.mk | exact trivial | (repeat intro hq))
set_option maxHeartbeats 4000000 in
set_option maxRecDepth 20000 in
theorem ismeas_ok (b r l : Int) : FnC Tryd.prog 66 [aMe b r l] [aMe0] (.one (sB ((decide (0 ≤ b) && decide (b ≤ 400)) && ((decide (0 ≤ r) && decide (r ≤ 400)) && (decide (0 ≤ l) && decide (l ≤ 400)))))) := by
  refine FnC_of (fn := Tryd.f66) Tryd.func66 rfl rfl rfl ?_
  have zD1 := fun {z0} {z1} {z2} (zh : True) => in_ok z0 z1 z2
  refine stp ?_ ?_ ?_ ?_ ?_ ?_ ?_ ?_ ?_ ?_ ?_ ?_ ?_ ?_ ?_ ?_ <;> (first | exact Mk.mk | exact trivial | (repeat intro hq))
  all_goals first
    | ((try simp only [cond_true] at *); simp only [Bool.and_true, Bool.true_and, Bool.and_false, Bool.false_and, *]; done)
    | ((try simp only [cond_true] at *); simp [*]; done)
set_option maxHeartbeats 4000000 in
set_option maxRecDepth 20000 in
theorem imeasadd_ok (b r l b' r' l' : Int) (h : (0 ≤ b ∧ b ≤ 400) ∧ (0 ≤ r ∧ r ≤ 400) ∧ (0 ≤ l ∧ l ≤ 400)) (h' : (0 ≤ b' ∧ b' ≤ 400) ∧ (0 ≤ r' ∧ r' ≤ 400) ∧ (0 ≤ l' ∧ l' ≤ 400)) : FnC Tryd.prog 25 [aMe b r l, aMe b' r' l'] [aMe0, aMe0] (.ag [sI (b + b'), sI (r + r'), sI (l + l')]) := by
  have k1 := ismeas_ok b r l
  have k2 := ismeas_ok b' r' l'
  rw [show ((decide (0 ≤ b) && decide (b ≤ 400)) && ((decide (0 ≤ r) && decide (r ≤ 400)) && (decide (0 ≤ l) && decide (l ≤ 400)))) = true by simp only [Bool.and_eq_true, decide_eq_true_eq]; omega] at k1
  rw [show ((decide (0 ≤ b') && decide (b' ≤ 400)) && ((decide (0 ≤ r') && decide (r' ≤ 400)) && (decide (0 ≤ l') && decide (l' ≤ 400)))) = true by simp only [Bool.and_eq_true, decide_eq_true_eq]; omega] at k2
  have k3 : FnC Tryd.prog 67 [aMe b r l, aMe b' r' l'] [aMe0, aMe0] (.ag [sI (b + b'), sI (r + r'), sI (l + l')]) := by
    refine FnC_of (fn := Tryd.f67) Tryd.func67 rfl rfl rfl ?_
    refine stp ?_ ?_ ?_ ?_ ?_ ?_ ?_ ?_ ?_ ?_ ?_ ?_ ?_ ?_ ?_ ?_ <;> (first | exact Mk.mk | exact trivial | (repeat intro hq))
  refine FnC_of (fn := Tryd.f25) Tryd.func25 rfl rfl rfl ?_
  have zD1 := fun (zh : True) => k1
  have zD2 := fun (zh : True) => k2
  have zD3 := fun (zh : True) => k3
  refine stp ?_ ?_ ?_ ?_ ?_ ?_ ?_ ?_ ?_ ?_ ?_ ?_ ?_ ?_ ?_ ?_ <;> (first | exact Mk.mk | exact trivial | (repeat intro hq))
set_option maxHeartbeats 4000000 in
set_option maxRecDepth 20000 in
theorem iropejoin_ok (xs ys : List (List UInt8)) (hx : Rp xs) (hy : Rp ys) (hl : xs.flatten.length + ys.flatten.length ≤ 400) : FnC Tryd.prog 22 [aRp xs, aRp ys] [aRp0, aRp0] (.tu [(true, [oChs (xs ++ ys)]), (false, [sB true])]) := by
  have hR : Rp (xs ++ ys) := by
    refine ⟨fun d hd => ?_, fun d hd => ?_, fun d hd => ?_, by rw [List.flatten_append, List.length_append]; exact hl⟩
    · exact (List.mem_append.1 hd).elim (hx.v d) (hy.v d)
    · exact (List.mem_append.1 hd).elim (hx.n d) (hy.n d)
    · exact (List.mem_append.1 hd).elim (hx.s d) (hy.s d)
  have h1 := hx.len
  have h2 := hy.len
  have e : [xs, ys].flatten = xs ++ ys := by simp
  have k1 := (concatC_ok [xs, ys] (by simp) (by rw [sumG, e, List.length_append]; omega)).frz rfl
  rw [e] at k1
  have k2 := irope_ok (xs ++ ys) (Nat.le_trans hR.len (by decide)) (fun d hd => Nat.le_trans (hR.s d hd) (by decide))
  rw [rp_iff.2 hR] at k2
  have k3 := ircopied_ok (xs ++ ys) (Nat.le_trans hR.l (by decide)) (Nat.le_trans hR.len (by decide))
  refine FnC_of (fn := Tryd.f22) Tryd.func22 rfl rfl rfl ?_
  refine stp ?_ ?_ ?_ ?_ ?_ ?_ ?_ ?_ ?_ ?_ ?_ ?_ ?_ ?_ ?_ ?_ <;> (first | exact Mk.mk | exact trivial | (repeat intro hq))
  refine OpW_weak (Wk_freeze (o := 12000) rfl) ?_
  have zD1 := fun (zh : True) => k1
  have zD2 := fun (zh : True) => k2
  have zD3 := fun (zh : True) => k3
  refine stp ?_ ?_ ?_ ?_ ?_ ?_ ?_ ?_ ?_ ?_ ?_ ?_ ?_ ?_ ?_ ?_ <;> (first | exact Mk.mk | exact trivial | (repeat intro hq))
theorem m_app {x y : List UInt8} (hx : tokM x = true) (hy : tokM y = true) (hl : x.length + y.length ≤ 400) : mB x + mB y = mB (x ++ y) ∧ mR x + mR y = mR (x ++ y) ∧ mL x + mL y = mL (x ++ y) := by
  have vx := tok_vld hx
  have vy := tok_vld hy
  have h : tokM (x ++ y) = true := by
    rw [tokM_eq, vld_app _ _ (Nat.le_refl _) vx, vy, Bool.and_true]
    exact decide_eq_true (by rw [List.length_append]; exact hl)
  unfold mB mR mL
  rw [if_pos hx, if_pos hy, if_pos h, if_pos hx, if_pos hy, if_pos h, if_pos hx, if_pos hy, if_pos h, rcM_app vx vy, List.length_append, List.count_append]
  omega
end Go.LX
