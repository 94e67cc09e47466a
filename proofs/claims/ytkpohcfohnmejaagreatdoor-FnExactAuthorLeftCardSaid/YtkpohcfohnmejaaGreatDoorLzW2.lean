/- A part of the proof of the statement in the row text. -/
import Derived.Test.YtkpohcfohnmejaaGreatDoorLzV6
import Derived.Test.YtkpohcfohnmejaaGreatDoorLzG5
import Derived.Test.YtkpohcfohnmejaaGreatDoorLxOpen
import Derived.Test.YtkpohcfohnmejaaGreatDoorLxCv
import Derived.Test.YtkpohcfohnmejaaGreatDoorLzH2
set_option linter.unusedVariables false
set_option linter.unusedSimpArgs false
namespace Go.LX
open Go.Proofs
attribute [local irreducible] W WO OpW RW EndQ
def sameE (a b : Ed) : Bool := decide (a.1 = b.1) && (decide (a.2.1 = b.2.1) && decide (a.2.2 = b.2.2))
theorem sameE_refl (a : Ed) : sameE a a = true := by simp [sameE]
end Go.LX

set_option linter.unusedVariables false
set_option linter.unusedSimpArgs false
namespace Go.LX
open Go.Proofs
attribute [local irreducible] W WO OpW RW EndQ
theorem stU_agree {p q : List UInt8} (h : stU p ≠ 0) (hl : stU p ≤ q.length) (ha : ∀ i, i < stU p → q.getD i 0 = p.getD i 0) : stU q = stU p := by
  have hl0 := (stU_le p).2
  have hp : p.length ≠ 0 := by omega
  rcases stU_def p hp with ⟨q1, q2⟩ | ⟨q1, q1', q2⟩ | ⟨q1, q2⟩ | ⟨q1, q2⟩ | ⟨q1, q2⟩
  · have a0 := ha 0 (by omega)
    rw [q2]
    exact stU_asc (by omega) (by rw [a0]; exact q1)
  · omega
  · obtain ⟨q3, q2⟩ := ite_nz q2 h
    have a0 := ha 0 (by omega)
    have a1 := ha 1 (by omega)
    rw [q2]
    rcases stU_def q (by omega) with ⟨r1, r2⟩ | ⟨r1, r1', r2⟩ | ⟨r1, r2⟩ | ⟨r1, r2⟩ | ⟨r1, r2⟩
    all_goals try (rw [a0] at r1; omega)
    · rw [a0] at r1 r1'; omega
    rw [a0, a1, if_pos ⟨by omega, q3.2⟩] at r2
    exact r2
  · obtain ⟨q3, q2⟩ := ite_nz q2 h
    have a0 := ha 0 (by omega)
    have a1 := ha 1 (by omega)
    have a2 := ha 2 (by omega)
    rw [q2]
    rcases stU_def q (by omega) with ⟨r1, r2⟩ | ⟨r1, r1', r2⟩ | ⟨r1, r2⟩ | ⟨r1, r2⟩ | ⟨r1, r2⟩
    all_goals try (rw [a0] at r1; omega)
    · rw [a0] at r1 r1'; omega
    rw [a0, a1, a2, if_pos ⟨by omega, q3.2⟩] at r2
    exact r2
  · obtain ⟨q3, q2⟩ := ite_nz q2 h
    have a0 := ha 0 (by omega)
    have a1 := ha 1 (by omega)
    have a2 := ha 2 (by omega)
    have a3 := ha 3 (by omega)
    rw [q2]
    rcases stU_def q (by omega) with ⟨r1, r2⟩ | ⟨r1, r1', r2⟩ | ⟨r1, r2⟩ | ⟨r1, r2⟩ | ⟨r1, r2⟩
    all_goals try (rw [a0] at r1; omega)
    · rw [a0] at r1 r1'; omega
    rw [a0, a1, a2, a3, if_pos ⟨by omega, q3.2⟩] at r2
    exact r2
theorem stU_app {p q : List UInt8} (h : stU p ≠ 0) : stU (p ++ q) = stU p := by
  have hl := (stU_le p).2
  refine stU_agree h (by rw [List.length_append]; omega) fun i hi => ?_
  rw [List.getD_eq_getElem?_getD, List.getD_eq_getElem?_getD, List.getElem?_append_left (by omega)]
theorem stU_take {p : List UInt8} {n : Nat} (h : stU p ≠ 0) (hn : stU p ≤ n) : stU (p.take n) = stU p := by
  have hl := (stU_le p).2
  refine stU_agree h (by rw [List.length_take]; omega) fun i hi => ?_
  rw [List.getD_eq_getElem?_getD, List.getD_eq_getElem?_getD, List.getElem?_take, if_pos (by omega)]
theorem vld_fst {p : List UInt8} (h : vld p = true) (hp : p.length ≠ 0) : stU p ≠ 0 ∧ vld (p.drop (stU p)) = true := by
  rw [vld_step hp] at h
  simpa using h
theorem vld_app {q : List UInt8} : ∀ (n : Nat) (p : List UInt8), p.length ≤ n → vld p = true → vld (p ++ q) = vld q
  | 0, p, hn, h => by
    rw [List.eq_nil_of_length_eq_zero (Nat.le_zero.1 hn)]; rfl
  | n + 1, p, hn, h => by
    by_cases hp : p.length = 0
    · rw [List.eq_nil_of_length_eq_zero hp]; rfl
    · obtain ⟨h1, h2⟩ := vld_fst h hp
      have hl := (stU_le p).2
      rw [vld_step (by rw [List.length_append]; omega), stU_app h1, List.drop_append_of_le_length hl, vld_app n _ (by rw [List.length_drop]; omega) h2, decide_eq_false h1]
      simp
theorem contB_nat {xs : List UInt8} {n : Nat} : contB xs n = decide (128 ≤ (xs.getD n 0).toNat ∧ (xs.getD n 0).toNat ≤ 191) := by
  unfold contB; rw [Int.toNat_natCast]
theorem contB_drop {xs : List UInt8} {s n : Nat} : contB (xs.drop s) n = contB xs ((s + n : Nat) : Int) := by
  rw [contB_nat, contB_nat, List.getD_eq_getElem?_getD, List.getElem?_drop, ← List.getD_eq_getElem?_getD]
theorem vld_cut : ∀ (n : Nat) (p : List UInt8) (a : Nat), p.length ≤ n → vld p = true → a ≤ p.length → (a = p.length ∨ contB p a = false) → vld (p.take a) = true ∧ vld (p.drop a) = true
  | 0, p, a, hn, h, ha, _ => by
    rw [List.eq_nil_of_length_eq_zero (Nat.le_zero.1 hn)]
    simp [vld_nil]
  | n + 1, p, a, hn, h, ha, hc => by
    by_cases h0 : a = 0
    · rw [h0]; exact ⟨rfl, h⟩
    · obtain ⟨h1, h2⟩ := vld_fst h (by omega)
      obtain ⟨c1, c2, hl⟩ := stU_cont h1
      have hs : stU p ≤ a := by
        rcases hc with hc | hc
        · omega
        · by_cases hh : stU p ≤ a
          · exact hh
          · have := c1 a (by omega) (by omega)
            rw [contB_nat, decide_eq_true this] at hc
            cases hc
      have hc' : a - stU p = (p.drop (stU p)).length ∨ contB (p.drop (stU p)) ((a - stU p : Nat) : Int) = false := by
        rcases hc with hc | hc
        · exact .inl (by rw [List.length_drop]; omega)
        · refine .inr ?_
          rw [contB_drop, show stU p + (a - stU p) = a by omega]; exact hc
      obtain ⟨i1, i2⟩ := vld_cut n (p.drop (stU p)) (a - stU p) (by rw [List.length_drop]; omega) h2 (by rw [List.length_drop]; omega) hc'
      constructor
      · rw [vld_step (by rw [List.length_take]; omega), stU_take h1 hs, List.drop_take, i1, decide_eq_false h1]; rfl
      · rw [List.drop_drop, show stU p + (a - stU p) = a by omega] at i2; exact i2
theorem cut_vld {p : List UInt8} {a : Int} (h : vld p = true) (hc : cutB p a = true) : (0 ≤ a ∧ a ≤ p.length) ∧ vld (p.take a.toNat) = true ∧ vld (p.drop a.toNat) = true := by
  have hi := cutB_in hc
  refine ⟨hi, vld_cut p.length p a.toNat (Nat.le_refl _) h (by omega) ?_⟩
  simp only [cutB, Bool.or_eq_true, Bool.and_eq_true, decide_eq_true_eq, Bool.not_eq_true'] at hc
  rcases hc with hc | ⟨_, hc⟩
  · exact .inl (by omega)
  · refine .inr ?_
    rw [show ((a.toNat : Nat) : Int) = a by omega]; exact hc
theorem cut_app {l r : List UInt8} (h : vld r = true) {a : Int} (ha : a = l.length) : cutB (l ++ r) a = true := by
  subst ha
  simp only [cutB, Bool.or_eq_true, Bool.and_eq_true, decide_eq_true_eq, Bool.not_eq_true', List.length_append]
  by_cases hr : r.length = 0
  · exact .inl (by omega)
  · refine .inr ⟨by omega, ?_⟩
    obtain ⟨h1, _⟩ := vld_fst h hr
    obtain ⟨_, c2, _⟩ := stU_cont h1
    rw [contB_nat, List.getD_eq_getElem?_getD, List.getElem?_append_right (Nat.le_refl _), Nat.sub_self, ← List.getD_eq_getElem?_getD]
    exact decide_eq_false c2
theorem eok_parts {t : List UInt8} {e : Ed} (h : eokM t e = true) : tokM t = true ∧ cutB t e.1 = true ∧ 0 ≤ e.2.1 ∧ cutB t (e.1 + e.2.1) = true ∧ tokM e.2.2 = true ∧ (t.length : Int) - e.2.1 + e.2.2.length ≤ 400 := by
  rw [eokI_eq] at h
  simp only [eokI, Bool.and_eq_true, decide_eq_true_eq] at h
  exact ⟨h.1, h.2.1, h.2.2.1.1, h.2.2.2.1, h.2.2.2.2.1, h.2.2.2.2.2⟩
theorem tok_vld {t : List UInt8} (h : tokM t = true) : vld t = true := by
  rw [tokM_eq, Bool.and_eq_true] at h; exact h.2
theorem doE_vld {t : List UInt8} {e : Ed} (h : eokM t e = true) : vld (t.take e.1.toNat) = true ∧ vld e.2.2 = true ∧ vld (t.drop (e.1 + e.2.1).toNat) = true ∧ vld (doE t e) = true := by
  obtain ⟨h1, h2, h3, h4, h5, h6⟩ := eok_parts h
  have v := tok_vld h1
  obtain ⟨_, a1, _⟩ := cut_vld v h2
  obtain ⟨_, _, a2⟩ := cut_vld v h4
  have a3 := tok_vld h5
  refine ⟨a1, a3, a2, ?_⟩
  rw [doE, List.append_assoc, vld_app _ _ (Nat.le_refl _) a1, vld_app _ _ (Nat.le_refl _) a3, a2]
/-- A text is valid after a valid edit. -/
theorem tok_do {t : List UInt8} {e : Ed} (hl : t.length ≤ 16777216) (h : eokM t e = true) : tokM (doE t e) = true := by
  obtain ⟨h1, h2, h3, h4, h5, h6⟩ := eok_parts h
  obtain ⟨k1, k2, k3, k4, k5⟩ := eokM_ok hl h
  rw [tokM_eq, (doE_vld h).2.2.2, Bool.and_true]
  apply decide_eq_true
  rw [doE]
  simp only [List.length_append, List.length_take, List.length_drop]
  omega
/-- A cut stays one, where it is moved to. -/
theorem cut_do {t : List UInt8} {e : Ed} {x : Int} {r : Bool} (hl : t.length ≤ 16777216) (h : eokM t e = true) (hx : cutB t x = true) : cutB (doE t e) (posM e x r) = true := by
  obtain ⟨h1, h2, h3, h4, h5, h6⟩ := eok_parts h
  obtain ⟨k1, k2, k3, k4, k5⟩ := eokM_ok hl h
  obtain ⟨v1, v2, v3, v4⟩ := doE_vld h
  have v := tok_vld h1
  obtain ⟨b1, b2, b3⟩ := cut_vld v hx
  unfold posM
  split
  · rename_i hlt
    have e1 : doE t e = t.take x.toNat ++ ((t.take e.1.toNat).drop x.toNat ++ (e.2.2 ++ t.drop (e.1 + e.2.1).toNat)) := by
      rw [doE, ← List.append_assoc (List.take _ _)]
      rw [show t.take x.toNat = (t.take e.1.toNat).take x.toNat by rw [List.take_take, Nat.min_eq_left (by omega)], List.take_append_drop, List.append_assoc]
    rw [e1]
    refine cut_app ?_ (by rw [List.length_take]; omega)
    have c : cutB (t.take e.1.toNat) x = true := by
      have hx' := hx
      simp only [cutB, Bool.or_eq_true, Bool.and_eq_true, decide_eq_true_eq, Bool.not_eq_true', List.length_take] at hx' ⊢
      refine .inr ⟨by omega, ?_⟩
      rcases hx' with hx' | hx'
      · omega
      · have := hx'.2
        rw [contB, List.getD_eq_getElem?_getD, List.getElem?_take, if_pos (by omega), ← List.getD_eq_getElem?_getD]
        exact this
    have c3 := (cut_vld v1 c).2.2
    rw [vld_app _ _ (Nat.le_refl _) c3, vld_app _ _ (Nat.le_refl _) v2, v3]
  · split
    · split
      · rw [doE]
        refine cut_app v3 ?_
        rw [List.length_append, List.length_take]; omega
      · rw [doE, List.append_assoc]
        refine cut_app ?_ (by rw [List.length_take]; omega)
        rw [vld_app _ _ (Nat.le_refl _) v2, v3]
    · have e1 : doE t e = (t.take e.1.toNat ++ e.2.2 ++ (t.drop (e.1 + e.2.1).toNat).take (x - (e.1 + e.2.1)).toNat) ++ t.drop x.toNat := by
        rw [doE, List.append_assoc (_ ++ _)]
        congr 1
        rw [show t.drop x.toNat = (t.drop (e.1 + e.2.1).toNat).drop (x - (e.1 + e.2.1)).toNat by rw [List.drop_drop]; congr 1; omega, List.take_append_drop]
      rw [e1]
      refine cut_app b3 ?_
      simp only [List.length_append, List.length_take, List.length_drop]
      omega
theorem moved_cuts {t : List UInt8} {e b : Ed} (hl : t.length ≤ 16777216) (he : eokM t e = true) (hb : eokM t b = true) : cutB (doE t b) (mvE e b).1 = true ∧ cutB (doE t b) ((mvE e b).1 + (mvE e b).2.1) = true ∧ 0 ≤ (mvE e b).2.1 := by
  obtain ⟨h1, h2, h3, h4, h5, h6⟩ := eok_parts he
  have ca := fun r => cut_do (r := r) hl hb h2
  have cb := fun r => cut_do (r := r) hl hb h4
  simp only [mvE, spI]
  split
  · refine ⟨ca true, ?_, by simp⟩
    simp only [Int.sub_self, Int.add_zero]
    exact ca true
  · rename_i hn
    refine ⟨ca true, ?_, by simp only; omega⟩
    simp only
    rw [show posM b e.1 true + (posM b (e.1 + e.2.1) false - posM b e.1 true) = posM b (e.1 + e.2.1) false by omega]
    exact cb false
end Go.LX

