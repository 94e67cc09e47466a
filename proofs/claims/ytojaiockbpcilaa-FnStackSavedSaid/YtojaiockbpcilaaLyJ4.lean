/- A part of the proof of the statement in the row text. -/
import Derived.Test.YtojaiockbpcilaaLyJ3
import Derived.Test.YtojaiockbpcilaaLyJ2
set_option linter.unusedVariables false
set_option linter.unusedSimpArgs false
namespace Go.LX
open Go.Proofs
attribute [local irreducible] W WO OpW RW EndQ
theorem tk_app {all s r : List UInt8} {a n : Nat} (h : all.drop a = s ++ r) (hs : s.length = n) (hn : 0 < n) : tkB all a false n = false ∧ tkA all a false n = ((a + n : Nat) : Int) ∧ tkR all a false n = s ∧ all.drop (a + n) = r := by
  have hl : all.length - a = s.length + r.length := by rw [← List.length_drop, h, List.length_append]
  have hb : tkB all a false n = false := by
    simp only [tkB, Bool.false_or, Bool.or_eq_false_iff, decide_eq_false_iff_not]
    omega
  refine ⟨hb, ?_, ?_, ?_⟩
  · rw [tkA, hb]; simp
  · rw [tkR, hb]
    simp only [Bool.false_eq_true, if_false]
    rw [show ((a : Int)).toNat = a by omega, h, ← hs, List.take_left]
  · rw [← List.drop_drop, h, ← hs, List.drop_left]
theorem wd_w2 {n : Int} (h : 0 ≤ n ∧ n ≤ 65535) : (wd (w2 n) 0 : Int) = n := by
  have h1 := toB_nat (n / 256)
  have h2 := toB_nat n
  show (((toB (n / 256)).toNat * 256 + (toB n).toNat : Nat) : Int) = n
  omega
/-- An edit is read as it was written. -/
theorem rd_eBy {all post : List UInt8} {e : Ed} {a : Nat} (h : all.drop a = eBy e ++ post) (he : smE e = true) : rdE all a false = ⟨e.1, e.2.1, e.2.2, ((a + 6 + e.2.2.length : Nat) : Int), false⟩ := by
  obtain ⟨h1, h2, h3⟩ := smE_ok he
  unfold eBy at h
  rw [List.append_assoc, List.append_assoc, List.append_assoc] at h
  obtain ⟨a1, a2, a3, a4⟩ := tk_app h (w2_len) (by decide)
  obtain ⟨b1, b2, b3, b4⟩ := tk_app a4 (w2_len) (by decide)
  obtain ⟨c1, c2, c3, c4⟩ := tk_app b4 (w2_len) (by decide)
  have w1 := wd_w2 (n := e.1) ⟨h1.1, by omega⟩
  have w2' := wd_w2 (n := e.2.1) ⟨h2.1, by omega⟩
  have w3 := wd_w2 (n := (e.2.2.length : Nat)) ⟨by omega, by omega⟩
  have w3' : wd (w2 (e.2.2.length : Nat)) 0 = e.2.2.length := by omega
  unfold rdE
  simp only [a1, a2, a3, b1, b2, b3, c1, c2, c3, w1, w2', w3']
  by_cases h0 : e.2.2.length = 0
  · have hp : e.2.2 = [] := List.eq_nil_of_length_eq_zero h0
    have hlen : a + 2 + 2 + 2 ≤ all.length := by
      have k := congrArg List.length b4
      rw [List.length_drop, List.length_append, w2_len] at k
      omega
    have hb : tkB all ((a + 2 + 2 + 2 : Nat) : Int) false 0 = false := by
      simp only [tkB, Bool.false_or, Bool.or_eq_false_iff, decide_eq_false_iff_not]
      omega
    rw [h0, hb, tkA, hb, tkR, hb]
    simp only [Bool.false_or, Bool.false_eq_true, if_false, List.take_zero]
    have hs : smB e.1 e.2.1 [] = true := by rw [smB, ← hp]; exact he
    rw [hs, hp]
    simp
    omega
  · obtain ⟨d1, d2, d3, d4⟩ := tk_app c4 rfl (by omega)
    have hs : smB e.1 e.2.1 e.2.2 = true := he
    simp only [d1, d2, d3, hs]
    simp
    omega
theorem inEd_all {all post : List UInt8} : ∀ {xs : List Ed} {a : Nat} {acc : List Ed}, all.drop a = (xs.map seB).flatten ++ post → xs.all smE = true → inEd all xs.length a false acc = (acc ++ xs, ((a + (xs.map seB).flatten.length : Nat) : Int), false)
  | [], a, acc, h, _ => by simp [inEd]
  | x :: xs, a, acc, h, hs => by
    rw [List.all_cons, Bool.and_eq_true] at hs
    have e1 : seB x = eBy x := by rw [seB, if_pos hs.1]
    rw [List.map_cons, List.flatten_cons, e1, List.append_assoc] at h
    have h1 := rd_eBy h hs.1
    have h2 : all.drop (a + 6 + x.2.2.length) = (xs.map seB).flatten ++ post := by
      rw [show a + 6 + x.2.2.length = a + (eBy x).length by rw [eBy_len]; omega, ← List.drop_drop, h, List.drop_left]
    have h3 := inEd_all (acc := acc ++ [x]) h2 hs.2
    show inEd all (xs.length + 1) a false acc = _
    rw [inEd, if_neg (by simp), h1]
    simp only
    rw [h3, List.map_cons, List.flatten_cons, e1, List.length_append, eBy_len]
    simp only [List.append_assoc, List.singleton_append, Prod.mk.injEq, true_and, and_true]
    omega
theorem allS_al {xs : List Ed} (h : allS xs = true) : xs.all smE = true := by
  simp only [allS, Bool.and_eq_true] at h; exact h.2
theorem inS_all {all post : List UInt8} {xs : List Ed} {a : Nat} (h : all.drop a = esB xs ++ post) (hs : allS xs = true) : inS all a false = (xs, ((a + (esB xs).length : Nat) : Int), false) := by
  have h6 := allS_len hs
  have h' : all.drop a = [toB (xs.length : Nat)] ++ ((xs.map seB).flatten ++ post) := h
  obtain ⟨a1, a2, a3, a4⟩ := tk_app h' rfl (by simp)
  have hn : oneN all a false = xs.length := by
    have := toB_nat (xs.length : Nat)
    rw [oneN]
    show ((tkR all a false 1).getD 0 0).toNat = _
    rw [show (tkR all (a : Int) false 1) = [toB (xs.length : Nat)] from a3]
    show (toB (xs.length : Nat)).toNat = _
    omega
  have a1' : tkB all a false 1 = false := a1
  have a2' : tkA all a false 1 = ((a + 1 : Nat) : Int) := a2
  have a4' : all.drop (a + 1) = (xs.map seB).flatten ++ post := a4
  rw [inS, hn, a1', a2', inEd_all a4' (allS_al hs)]
  simp only [List.nil_append, esB, List.length_cons, Prod.mk.injEq, true_and, and_true]
  omega
theorem st_all {all post : List UInt8} {xs ys : List Ed} {a : Nat} (h : all.drop a = esB xs ++ (esB ys ++ post)) (hx : allS xs = true) (hy : allS ys = true) : (sv1 all a false).1 = xs ∧ (sv2 all a false).1 = ys ∧ (sv2 all a false).2.1 = ((a + (esB xs).length + (esB ys).length : Nat) : Int) ∧ stBad all a = false := by
  have h1 := inS_all h hx
  have h2 : all.drop (a + (esB xs).length) = esB ys ++ post := by rw [← List.drop_drop, h, List.drop_left]
  have h3 := inS_all h2 hy
  have e1 : (sv1 all a false).1 = xs := by show (inS all a false).1 = xs; rw [h1]
  have e2 : sv2 all a false = (ys, ((a + (esB xs).length + (esB ys).length : Nat) : Int), false) := by
    show inS all (inS all a false).2.1 (inS all a false).2.2 = _
    rw [h1]; exact h3
  refine ⟨e1, by rw [e2], by rw [e2], ?_⟩
  rw [stBad, e1, e2, hx, hy]; rfl
end Go.LX
