/- A part of the proof of the statement in the row text. -/
import Derived.Test.YtbebnlhgnbnjoaaLxR6
set_option linter.unusedVariables false
set_option linter.unusedSimpArgs false
namespace Go.LX

theorem tk_w (xs : List UInt8) (a : Int) : tkB xs a false 2 = wB xs a := by
  simp only [tkB, wB, Bool.false_or]
  congr 1
  rw [decide_eq_decide]
  constructor <;> intro h <;> omega
theorem tk_t (xs : List UInt8) (a : Int) (n : Nat) : tkB xs a true n = true := by simp [tkB]
theorem wd_tk (xs : List UInt8) (a : Int) (h : wB xs a = false) : wd (tkR xs a false 2) 0 = wd xs a.toNat := by
  unfold tkR
  rw [tk_w, h]
  simp [wB] at h
  unfold wd
  simp [List.getD_eq_getElem?_getD, List.getElem?_take, List.getElem?_drop]
theorem tk_a (xs : List UInt8) (a : Int) (h : wB xs a = false) : tkA xs a false 2 = a + 2 := by
  simp [tkA, tk_w, h]
theorem rd_bad (xs : List UInt8) (a : Int) : (rdE xs a false).bad = fB xs a := by
  unfold rdE
  simp only
  cases h1 : wB xs a with
  | true => simp [fB, h1, tk_w, tk_t]
  | false =>
    rw [wd_tk xs a h1, tk_a xs a h1, tk_w xs a, h1]
    cases h2 : wB xs (a + 2) with
    | true => simp [fB, h2, tk_w, tk_t]
    | false =>
      rw [wd_tk _ _ h2, tk_a _ _ h2, tk_w, h2, show a + 2 + 2 = a + 4 by omega]
      cases h3 : wB xs (a + 4) with
      | true => simp [fB, h3, tk_w, tk_t, tB]
      | false =>
        rw [wd_tk _ _ h3, tk_a _ _ h3, tk_w, h3, show a + 4 + 2 = a + 6 by omega]
        have h1' := h1
        have h3' := h3
        simp [wB] at h1' h3'
        have e : tkB xs (a + 6) false (wd xs (a + 4).toNat) = tB xs (a + 4) := by
          simp only [tkB, tB, h3, Bool.false_or]
          rw [show decide (a + 6 < 0) = false by simp; omega, Bool.false_or, decide_eq_decide]
          constructor <;> intro h <;> omega
        have e4 : (a + 6).toNat = (a + 4).toNat + 2 := by omega
        cases h4 : tB xs (a + 4) with
        | true => simp [e, h4, fB]
        | false =>
          have e5 : tkR xs (a + 6) false (wd xs (a + 4).toNat) = (xs.drop ((a + 4).toNat + 2)).take (wd xs (a + 4).toNat) := by
            simp [tkR, e, h4, e4]
          rw [e, h4, e5]
          simp [fB, h1, h2, h4]
          omega
theorem rd_good (xs : List UInt8) (a : Int) (h : fB xs a = false) : ∃ m : Nat, a = m ∧ m + 6 + wd xs (m + 4) ≤ xs.length ∧ smB (wd xs m) (wd xs (m + 2)) ((xs.drop (m + 6)).take (wd xs (m + 4))) = true ∧
    (rdE xs a false).a = wd xs m ∧ (rdE xs a false).c = wd xs (m + 2) ∧ (rdE xs a false).p = (xs.drop (m + 6)).take (wd xs (m + 4)) ∧ (rdE xs a false).at_ = ((m + 6 + wd xs (m + 4) : Nat) : Int) := by
  have h' := h
  simp only [fB, Bool.or_eq_false_iff, Bool.not_eq_false', decide_eq_false_iff_not] at h'
  obtain ⟨⟨⟨⟨⟨h0, _⟩, h1⟩, h2⟩, h4⟩, h5⟩ := h'
  obtain ⟨m, rfl⟩ := Int.eq_ofNat_of_zero_le (show 0 ≤ a by omega)
  have h3 : wB xs ((m : Int) + 4) = false := by
    simp only [tB, Bool.or_eq_false_iff] at h4; exact h4.1
  have t2 : ((m : Int) + 2).toNat = m + 2 := by omega
  have t4 : ((m : Int) + 4).toNat = m + 4 := by omega
  have t6 : ((m : Int) + 6).toNat = m + 6 := by omega
  have hl : m + 6 + wd xs (m + 4) ≤ xs.length := by
    simp only [tB, Bool.or_eq_false_iff, decide_eq_false_iff_not, t4] at h4
    omega
  have e : tkB xs ((m : Int) + 6) false (wd xs (m + 4)) = false := by
    simp only [tkB, Bool.false_or, Bool.or_eq_false_iff, decide_eq_false_iff_not]
    omega
  refine ⟨m, rfl, hl, ?_, ?_, ?_, ?_, ?_⟩
  · simpa [t2, t4] using h5
  · simp only [rdE]
    rw [wd_tk _ _ h1]; simp
  · simp only [rdE]
    rw [tk_a _ _ h1, tk_w, h1, wd_tk _ _ h2, t2]
  · simp only [rdE]
    rw [tk_a _ _ h1, tk_w, h1, tk_a _ _ h2, tk_w, h2, show (m : Int) + 2 + 2 = m + 4 by omega, wd_tk _ _ h3, tk_a _ _ h3, tk_w, h3, t4, show (m : Int) + 4 + 2 = m + 6 by omega]
    simp [tkR, e, t6]
  · simp only [rdE]
    rw [tk_a _ _ h1, tk_w, h1, tk_a _ _ h2, tk_w, h2, show (m : Int) + 2 + 2 = m + 4 by omega, wd_tk _ _ h3, tk_a _ _ h3, tk_w, h3, t4, show (m : Int) + 4 + 2 = m + 6 by omega]
    simp [tkA, e]
end Go.LX
