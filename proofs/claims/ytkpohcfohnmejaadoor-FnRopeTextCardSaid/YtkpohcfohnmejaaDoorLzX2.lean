/- A part of the proof of the statement in the row text. -/
import Derived.Test.YtkpohcfohnmejaaDoorLzH2
import Derived.Test.YtkpohcfohnmejaaDoorLzG5
import Derived.Test.YtkpohcfohnmejaaDoorLxNl
import Derived.Test.YtkpohcfohnmejaaDoorLxFrz
import Derived.Test.YtkpohcfohnmejaaDoorLzW2
set_option linter.unusedVariables false
set_option linter.unusedSimpArgs false
namespace Go.LX
open Go.Proofs
attribute [local irreducible] W WO OpW RW EndQ
set_option maxHeartbeats 4000000 in
set_option maxRecDepth 20000 in
theorem grow_ok (n : Int) (h : 0 ≤ n ∧ n ≤ 1000000000) : FnC Tryd.prog 131 [.nl, aI n] [aX, aX] (.one (oBy [])) := by
  refine FnC_of (fn := Tryd.f131) Tryd.func131 rfl rfl rfl ?_
  refine stpC ?_ ?_ ?_ ?_ ?_ ?_ ?_ ?_ ?_ ?_ ?_ ?_ ?_ ?_ ?_ ?_ <;> (first | exact Mk.mk | exact trivial | (repeat intro hq))
/-- How long all are together. -/
def sumL (xss : List (List UInt8)) : Nat := xss.flatten.length
theorem sumL_take {xss : List (List UInt8)} {i : Nat} (h : i < xss.length) (d : List UInt8) : sumL (xss.take (i + 1)) = sumL (xss.take i) + (xss.getD i d).length := by
  rw [take1 h d, sumL, sumL, List.flatten_append, List.length_append, List.flatten_singleton]
theorem sumL_le {xss : List (List UInt8)} {i : Nat} : sumL (xss.take i) ≤ sumL xss := by
  have : sumL xss = sumL (xss.take i) + sumL (xss.drop i) := by
    unfold sumL; rw [← List.length_append, ← List.flatten_append, List.take_append_drop]
  omega
theorem flatT {xss : List (List UInt8)} {i : Nat} (h : i < xss.length) (d : List UInt8) : (xss.take (i + 1)).flatten = (xss.take i).flatten ++ xss.getD i d := by
  rw [take1 h d, List.flatten_append, List.flatten_singleton]
abbrev aBs (xss : List (List UInt8)) : SA := .c (.d (.sl (.sl .u8)) xss)
set_option maxHeartbeats 4000000 in
set_option maxRecDepth 20000 in
theorem concat_ok (xss : List (List UInt8)) (hn : xss.length ≤ 1000000) (hl : sumL xss ≤ 1000000000) : FnC Tryd.prog 100 [aBs xss] [aX] (.one (oBy xss.flatten)) := by
  refine FnC_of (fn := Tryd.f100) Tryd.func100 rfl rfl rfl ?_
  refine stp ?_ ?_ ?_ ?_ ?_ ?_ ?_ ?_ ?_ ?_ ?_ ?_ ?_ ?_ ?_ ?_ <;> (first | exact Mk.mk | exact trivial | (repeat intro hq))
  refine W_loopT (fun i : Nat => St.tmpl 36 [(0, .one (.d (.sl (.sl .u8)) xss)), (3, .one (.d (.i .i64) (sumL (xss.take i) : Nat))), (9, .one (.d (.sl (.sl .u8)) xss)), (10, .one (.d (.i .i64) (xss.length : Nat))), (11, .one (.d (.i .i64) (i : Int)))] []) (fun i => i ≤ xss.length) (fun i => xss.length - i) 0 (Nat.zero_le _) ?_ ?_
  · exact Wk_tmpl [] ⟨rfl, rfl, rfl, rfl, rfl, trivial⟩ trivial rfl rfl
  · intro i hi
    have hs := sumL_le (xss := xss) (i := i)
    have hs1 := sumL_le (xss := xss) (i := i + 1)
    have ht := fun h : i < xss.length => sumL_take h (dflt (.sl .u8))
    have zE1 := fun {z0} zh => grow_ok z0 zh
    refine stp ?_ ?_ ?_ ?_ ?_ ?_ ?_ ?_ ?_ ?_ ?_ ?_ ?_ ?_ ?_ ?_ <;> (first | exact Mk.mk | exact trivial | (repeat intro hq))
    · have hlt : i < xss.length := by simpa using hq
      refine ⟨i + 1, by omega, by omega, Wk_tmpl [] ⟨rfl, ?_, rfl, rfl, rfl, trivial⟩ trivial rfl rfl⟩
      refine congrArg (fun r => SV.one (C.d (Ty.i IntKind.i64) r)) ?_
      show (sumL (xss.take i) : Int) + ((xss.getD i (dflt (.sl .u8))).length : Nat) = _
      rw [ht hlt, Int.natCast_add]
    · refine W_loopT (fun i : Nat => St.tmpl 36 [(6, .one (.rf 7000 .ar)), (25, .one (.d (.sl (.sl .u8)) xss)), (26, .one (.d (.i .i64) (xss.length : Nat))), (27, .one (.d (.i .i64) (i : Int)))] [(7000, .rows 5 .u8 false (xss.take i).flatten)]) (fun i => i ≤ xss.length) (fun i => xss.length - i) 0 (Nat.zero_le _) ?_ ?_
      · exact Wk_tmpl [(7000, 25000)] ⟨rfl, rfl, rfl, rfl, trivial⟩ ⟨rfl, trivial⟩ rfl rfl
      · intro j hj
        have hs := sumL_le (xss := xss) (i := j)
        have hs1 := sumL_le (xss := xss) (i := j + 1)
        have ht := fun h : j < xss.length => sumL_take h (dflt (.sl .u8))
        unfold sumL at hs hs1 ht hl
        refine stp ?_ ?_ ?_ ?_ ?_ ?_ ?_ ?_ ?_ ?_ ?_ ?_ ?_ ?_ ?_ ?_ <;> (first | exact Mk.mk | exact trivial | (repeat intro hq))
        · have hlt : j < xss.length := by simpa using hq
          have := ht hlt
          show (xss.take j).flatten.length + (xss.getD j (dflt (.sl .u8))).length ≤ maxLen
          unfold maxLen; omega
        · have hlt : j < xss.length := by simpa using hq
          refine ⟨j + 1, by omega, by omega, Wk_tmpl [(7000, 34000)] ⟨rfl, rfl, rfl, rfl, trivial⟩ ⟨?_, trivial⟩ rfl rfl⟩
          refine congrArg (fun r => some (Ob.rows 5 .u8 false r)) ?_
          exact (flatT hlt _).symm
        · have e : j = xss.length := by simp at hq; omega
          rw [e, List.take_length]
end Go.LX

set_option linter.unusedVariables false
set_option linter.unusedSimpArgs false
namespace Go.LX
open Go.Proofs
attribute [local irreducible] W WO OpW RW EndQ
theorem cut_iff {p : List UInt8} (h : vld p = true) {a : Nat} : cutB p a = true ↔ a ≤ p.length ∧ vld (p.drop a) = true := by
  constructor
  · intro hc
    obtain ⟨h1, _, h3⟩ := cut_vld h hc
    exact ⟨by omega, by simpa using h3⟩
  · rintro ⟨h1, h2⟩
    have := cut_app (l := p.take a) (r := p.drop a) h2 (a := (a : Int)) (by rw [List.length_take]; omega)
    rwa [List.take_append_drop] at this
theorem cut_suf {p : List UInt8} (h : vld p = true) {a x : Nat} (ha : cutB p a = true) : cutB (p.drop a) x = cutB p ((a + x : Nat) : Int) := by
  obtain ⟨h1, h2⟩ := (cut_iff h).1 ha
  rw [Bool.eq_iff_iff, cut_iff h2, cut_iff h, List.drop_drop, List.length_drop]
  constructor
  · rintro ⟨h3, h4⟩; exact ⟨by omega, h4⟩
  · rintro ⟨h3, h4⟩; exact ⟨by omega, h4⟩
theorem cut_0 {p : List UInt8} (h : vld p = true) : cutB p ((0 : Nat) : Int) = true := (cut_iff h).2 ⟨Nat.zero_le _, by simpa using h⟩
theorem cut_end {p : List UInt8} (h : vld p = true) : cutB p (p.length : Nat) = true := by simp [cutB]
/-- The last place up to which both are alike and may be cut. -/
structure IsAt (w s : List UInt8) (a : Nat) : Prop where
  c1 : cutB w a = true
  c2 : cutB s a = true
  eq : w.take a = s.take a
  mx : ∀ j : Nat, cutB w j = true → cutB s j = true → w.take j = s.take j → j ≤ a
/-- The greatest number of bytes at the end, behind a place, that both have. -/
structure IsKp (w s : List UInt8) (a k : Nat) : Prop where
  l1 : a + k ≤ w.length
  l2 : a + k ≤ s.length
  c1 : cutB w ((w.length - k : Nat) : Int) = true
  c2 : cutB s ((s.length - k : Nat) : Int) = true
  eq : w.drop (w.length - k) = s.drop (s.length - k)
  mx : ∀ j : Nat, a + j ≤ w.length → a + j ≤ s.length → cutB w ((w.length - j : Nat) : Int) = true → cutB s ((s.length - j : Nat) : Int) = true → w.drop (w.length - j) = s.drop (s.length - j) → j ≤ k
theorem IsAt.one {w s : List UInt8} {a b : Nat} (h : IsAt w s a) (h' : IsAt w s b) : a = b := Nat.le_antisymm (h'.mx _ h.c1 h.c2 h.eq) (h.mx _ h'.c1 h'.c2 h'.eq)
theorem IsKp.one {w s : List UInt8} {a k l : Nat} (h : IsKp w s a k) (h' : IsKp w s a l) : k = l := Nat.le_antisymm (h'.mx _ h.l1 h.l2 h.c1 h.c2 h.eq) (h.mx _ h'.l1 h'.l2 h'.c1 h'.c2 h'.eq)
/-- The edit from one text to another. -/
def edE (w s : List UInt8) (r : Nat × Nat) : Ed := ((r.1 : Nat), (w.length - r.2 - r.1 : Int), (s.drop r.1).take (s.length - r.2 - r.1))
def EdOK (w s : List UInt8) (r : Nat × Nat) : Prop := IsAt w s r.1 ∧ IsKp w s r.1 r.2
theorem EdOK.one {w s : List UInt8} {r r' : Nat × Nat} (h : EdOK w s r) (h' : EdOK w s r') : r = r' := by
  obtain ⟨a, k⟩ := r
  obtain ⟨a', k'⟩ := r'
  obtain ⟨h1, h2⟩ := h
  obtain ⟨h3, h4⟩ := h'
  have e : a = a' := h1.one h3
  subst e
  have e : k = k' := h2.one h4
  subst e
  rfl
theorem ed_put {w s : List UInt8} {r : Nat × Nat} (hv : vld s = true) (h : EdOK w s r) : vld (edE w s r).2.2 = true ∧ (edE w s r).2.2.length = s.length - r.2 - r.1 := by
  obtain ⟨h1, h2⟩ := h
  have l2 := h2.l2
  obtain ⟨_, v1⟩ := (cut_iff hv).1 h1.c2
  have c := h2.c2
  have e : s.length - r.2 = r.1 + (s.length - r.2 - r.1) := by omega
  rw [e, ← cut_suf hv h1.c2] at c
  have := (cut_vld v1 c).2.1
  refine ⟨by simpa [edE] using this, ?_⟩
  simp only [edE, List.length_take, List.length_drop]; omega
theorem ed_do {w s : List UInt8} {r : Nat × Nat} (h : EdOK w s r) : doE w (edE w s r) = s := by
  obtain ⟨h1, h2⟩ := h
  have l1 := h2.l1
  have l2 := h2.l2
  have e : (((r.1 : Nat) : Int) + ((w.length : Int) - (r.2 : Int) - (r.1 : Int))).toNat = w.length - r.2 := by omega
  have e1 : s.drop (s.length - r.2) = (s.drop r.1).drop (s.length - r.2 - r.1) := by rw [List.drop_drop]; congr 1; omega
  simp only [doE, edE, e, Int.toNat_natCast]
  rw [h1.eq, h2.eq, e1, List.append_assoc, List.take_append_drop, List.take_append_drop]
theorem ed_ok {w s : List UInt8} {r : Nat × Nat} (hw : tokM w = true) (hs : tokM s = true) (h : EdOK w s r) : eokM w (edE w s r) = true := by
  have vs := tok_vld hs
  have ls := tokM_len hs
  obtain ⟨p1, p2⟩ := ed_put vs h
  obtain ⟨h1, h2⟩ := h
  have l1 := h2.l1
  have l2 := h2.l2
  rw [eokI_eq]
  simp only [eokI, Bool.and_eq_true, decide_eq_true_eq]
  have e : (edE w s r).1 + (edE w s r).2.1 = ((w.length - r.2 : Nat) : Int) := by simp only [edE]; omega
  refine ⟨hw, h1.c1, ⟨by simp only [edE]; omega, by simp only [edE]; omega⟩, ?_, ?_, ?_⟩
  · rw [e]; exact h2.c1
  · rw [tokM_eq, p1, Bool.and_true]; exact decide_eq_true (by omega)
  · rw [p2]; simp only [edE]; omega
theorem r1_bytes {xs : List UInt8} {a : Int} (h : (r1X xs a).2 ≠ 0) : cut (some a) (some (a + (r1X xs a).2)) xs = rbN (r1X xs a).1 := by
  unfold r1X at h ⊢
  split at h
  · rename_i h1
    rw [if_pos h1]
    split at h
    · simp at h
    · rename_i h2
      rw [if_neg h2]
      split at h
      · rename_i h3
        rw [if_pos h3]; exact h3.symm
      · simp at h
  · simp at h
theorem r1_take {xs : List UInt8} {a : Nat} (hv : vld (xs.drop a) = true) (ha : a < xs.length) : (xs.drop a).take (stU (xs.drop a)) = rbN (r1X xs a).1 ∧ stU (xs.drop a) ≠ 0 ∧ stU (xs.drop a) ≤ xs.length - a := by
  have hl : (xs.drop a).length ≠ 0 := by rw [List.length_drop]; omega
  obtain ⟨h1, _⟩ := vld_fst hv hl
  have h2 := (stU_cont h1).2.2
  rw [List.length_drop] at h2
  have e : (r1X xs a).2 = (stU (xs.drop a) : Int) := rs_eq xs a (by omega)
  have h3 := r1_bytes (xs := xs) (a := a) (by omega)
  rw [e, cut_two (by omega)] at h3
  exact ⟨h3, h1, h2⟩
theorem ed_rune {w s : List UInt8} {r : Nat × Nat} (hw : vld w = true) (hs : vld s = true) (h : EdOK w s r) (h1 : (edE w s r).2.1 ≠ 0) (h2 : (edE w s r).2.2.length ≠ 0) : (r1X w (edE w s r).1).1 ≠ (r1X (edE w s r).2.2 0).1 := by
  intro e
  obtain ⟨p1, p2⟩ := ed_put hs h
  obtain ⟨k1, k2⟩ := h
  have l1 := k2.l1
  have l2 := k2.l2
  have ha : r.1 < w.length := by simp only [edE] at h1; omega
  obtain ⟨_, v1⟩ := (cut_iff hw).1 k1.c1
  obtain ⟨_, v2⟩ := (cut_iff hs).1 k1.c2
  obtain ⟨a1, a2, a3⟩ := r1_take v1 ha
  have v3 : vld ((edE w s r).2.2.drop 0) = true := by rw [List.drop_zero]; exact p1
  obtain ⟨b1, b2, b3⟩ := r1_take v3 (by omega)
  rw [List.drop_zero] at b1 b2 b3
  have e' : (r1X w (r.1 : Nat)).1 = (r1X (edE w s r).2.2 ((0 : Nat) : Int)).1 := e
  rw [e', ← b1] at a1
  generalize hn : stU (w.drop r.1) = n at *
  generalize hm : stU (edE w s r).2.2 = m at *
  have len := congrArg List.length a1
  rw [List.length_take, List.length_take, List.length_drop] at len
  have enm : n = m := by omega
  subst enm
  have a4 : (edE w s r).2.2.take n = (s.drop r.1).take n := by
    simp only [edE, List.take_take]; congr 1
    rw [p2] at b3; omega
  rw [a4] at a1
  have et : w.take (r.1 + n) = s.take (r.1 + n) := by rw [List.take_add, List.take_add, k1.eq, a1]
  have hsd : s.drop r.1 = (edE w s r).2.2 ++ (s.drop r.1).drop (s.length - r.2 - r.1) := by simp only [edE]; exact (List.take_append_drop _ _).symm
  have hst : stU (s.drop r.1) = n := by rw [hsd, stU_app (by omega)]; exact hm
  have w1 := (vld_fst v1 (by rw [List.length_drop]; omega)).2
  have w2 := (vld_fst v2 (by rw [List.length_drop]; rw [p2] at h2; omega)).2
  rw [hn, List.drop_drop] at w1
  rw [hst, List.drop_drop] at w2
  rw [p2] at b3
  have := k1.mx (r.1 + n) ((cut_iff hw).2 ⟨by omega, w1⟩) ((cut_iff hs).2 ⟨by omega, w2⟩) et
  omega
end Go.LX

set_option linter.unusedVariables false
set_option linter.unusedSimpArgs false
namespace Go.LX
open Go.Proofs
attribute [local irreducible] W WO OpW RW EndQ
end Go.LX

