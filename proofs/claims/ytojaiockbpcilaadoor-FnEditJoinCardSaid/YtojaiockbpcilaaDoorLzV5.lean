/- A part of the proof of the statement in the row text. -/
import Derived.Test.YtojaiockbpcilaaDoorLzV4
set_option linter.unusedVariables false
set_option linter.unusedSimpArgs false
namespace Go.LX
open Go.Proofs
attribute [local irreducible] W WO OpW RW EndQ
/-- A byte that goes on with a rune. -/
def contB (xs : List UInt8) (x : Int) : Bool := decide (128 ≤ (xs.getD x.toNat 0).toNat ∧ (xs.getD x.toNat 0).toNat ≤ 191)
theorem ite_nz {c : Prop} [Decidable c] {n m : Nat} (h : m = if c then n else 0) (h0 : m ≠ 0) : c ∧ m = n := by
  by_cases hc : c
  · rw [if_pos hc] at h; exact ⟨hc, h⟩
  · rw [if_neg hc] at h; exact absurd h h0
theorem stU_cont {p : List UInt8} (h : stU p ≠ 0) : (∀ i, 0 < i → i < stU p → 128 ≤ (p.getD i 0).toNat ∧ (p.getD i 0).toNat ≤ 191) ∧ ¬ (128 ≤ (p.getD 0 0).toNat ∧ (p.getD 0 0).toNat ≤ 191) ∧ stU p ≤ p.length := by
  have hl := (stU_le p).2
  have hp : p.length ≠ 0 := by omega
  rcases stU_def p hp with ⟨q1, q2⟩ | ⟨q1, q1', q2⟩ | ⟨q1, q2⟩ | ⟨q1, q2⟩ | ⟨q1, q2⟩
  · exact ⟨fun i h1 h2 => by omega, by omega, hl⟩
  · omega
  · obtain ⟨q, q2⟩ := ite_nz q2 h
    refine ⟨fun i h1 h2 => ?_, by omega, hl⟩
    obtain rfl : i = 1 := by omega
    exact q.2.2
  · obtain ⟨q, q2⟩ := ite_nz q2 h
    refine ⟨fun i h1 h2 => ?_, by omega, hl⟩
    obtain ⟨_, ⟨q3, q3'⟩, q4⟩ := q
    have : i = 1 ∨ i = 2 := by omega
    rcases this with rfl | rfl
    · constructor
      · split at q3 <;> omega
      · split at q3' <;> omega
    · exact q4
  · obtain ⟨q, q2⟩ := ite_nz q2 h
    refine ⟨fun i h1 h2 => ?_, by omega, hl⟩
    obtain ⟨_, _, ⟨q3, q3'⟩, q4, q5⟩ := q
    have : i = 1 ∨ i = 2 ∨ i = 3 := by omega
    rcases this with rfl | rfl | rfl
    · constructor
      · split at q3 <;> omega
      · split at q3' <;> omega
    · exact q4
    · exact q5
theorem ctM_vld {xs : List UInt8} : ∀ {f : Nat} {a : Nat}, a ≤ xs.length → xs.length < a + f → ((ctM xs f a).isSome = vld (xs.drop a)) ∧ ∀ l, ctM xs f (a : Int) = some l → ∀ x : Int, x ∈ l ↔ ((a : Int) ≤ x ∧ x ≤ xs.length ∧ (x = xs.length ∨ contB xs x = false))
  | 0, a, h1, h2 => by omega
  | f + 1, a, h1, h2 => by
    have hlen : (xs.drop a).length = xs.length - a := List.length_drop ..
    unfold ctM
    by_cases h0 : a < xs.length
    · rw [if_pos (by omega), rs_eq xs a h1]
      have hv := vld_step (p := xs.drop a) (by omega)
      by_cases hs : stU (xs.drop a) = 0
      · rw [if_pos (by omega), hv, hs]
        exact ⟨rfl, fun l hl => by cases hl⟩
      · obtain ⟨k1, k2, k3⟩ := stU_cont hs
        obtain ⟨i1, i2⟩ := ctM_vld (xs := xs) (f := f) (a := a + stU (xs.drop a)) (by omega) (by omega)
        rw [List.drop_drop, decide_eq_false hs] at hv
        rw [if_neg (by omega), hv]
        rw [show ((a : Int) + (stU (xs.drop a) : Int)) = ((a + stU (xs.drop a) : Nat) : Int) by omega]
        refine ⟨by rw [Option.isSome_map, i1]; simp, fun l hl x => ?_⟩
        obtain ⟨l', hl', rfl⟩ := Option.map_eq_some_iff.1 hl
        have i3 := i2 l' hl' x
        rw [List.mem_cons, i3]
        have hat : ∀ i, (xs.drop a).getD i 0 = xs.getD (a + i) 0 := fun i => getD_drop'
        constructor
        · rintro (rfl | ⟨h3, h4, h5⟩)
          · refine ⟨by omega, by omega, .inr ?_⟩
            rw [hat] at k2
            unfold contB
            rw [show ((a : Int)).toNat = a + 0 by omega]
            exact decide_eq_false k2
          · exact ⟨by omega, h4, h5⟩
        · rintro ⟨h3, h4, h5⟩
          by_cases h6 : ((a + stU (xs.drop a) : Nat) : Int) ≤ x
          · exact .inr ⟨h6, h4, h5⟩
          · left
            refine Decidable.byContradiction fun h7 => ?_
            obtain ⟨m, rfl⟩ : ∃ m : Nat, x = ((a + m : Nat) : Int) := ⟨(x - a).toNat, by omega⟩
            have h8 := k1 m (by omega) (by omega)
            rw [hat] at h8
            rcases h5 with h5 | h5
            · omega
            · unfold contB at h5
              rw [show (((a + m : Nat) : Int)).toNat = a + m by omega] at h5
              exact of_decide_eq_false h5 h8
    · rw [if_neg (by omega)]
      have ha : a = xs.length := by omega
      have e : xs.drop a = [] := by rw [ha, List.drop_length]
      refine ⟨by rw [e]; rfl, fun l hl x => ?_⟩
      cases hl
      simp only [List.mem_singleton]
      omega
theorem tokM_eq (xs : List UInt8) : tokM xs = (decide (xs.length ≤ 400) && vld xs) := by
  unfold tokM cuL
  by_cases h : 400 < xs.length
  · rw [if_pos h, decide_eq_false (show ¬ xs.length ≤ 400 by omega)]; rfl
  · rw [if_neg h, decide_eq_true (show xs.length ≤ 400 by omega), Bool.true_and]
    obtain ⟨i1, i2⟩ := ctM_vld (xs := xs) (f := xs.length + 1) (a := 0) (Nat.zero_le _) (by omega)
    rw [List.drop_zero] at i1
    have i1' : (ctM xs (xs.length + 1) 0).isSome = vld xs := i1
    rw [← i1']
    cases hc : ctM xs (xs.length + 1) 0 with
    | none => rfl
    | some l =>
      have := (i2 l hc xs.length).2 ⟨by omega, by omega, .inl rfl⟩
      have : 0 < l.length := List.length_pos_of_mem this
      simp
      omega
/-- May an offset be cut at? -/
def cutB (xs : List UInt8) (a : Int) : Bool := decide (a = xs.length) || ((decide (0 ≤ a) && decide (a ≤ xs.length - 1)) && !contB xs a)
theorem cuL_mem {xs : List UInt8} (h : tokM xs = true) (x : Int) : x ∈ cuL xs ↔ cutB xs x = true := by
  have h4 := tokM_len h
  obtain ⟨i1, i2⟩ := ctM_vld (xs := xs) (f := xs.length + 1) (a := 0) (Nat.zero_le _) (by omega)
  rw [tokM_eq, decide_eq_true h4, Bool.true_and] at h
  rw [List.drop_zero, h] at i1
  have i1' : (ctM xs (xs.length + 1) 0).isSome = true := i1
  obtain ⟨l, hl⟩ := Option.isSome_iff_exists.1 i1'
  have e : cuL xs = l := by rw [cuL, if_neg (by omega), hl]; rfl
  rw [e, i2 l hl x]
  simp only [cutB, Bool.or_eq_true, Bool.and_eq_true, decide_eq_true_eq, Bool.not_eq_true']
  constructor
  · rintro ⟨h1, h2, h3 | h3⟩
    · exact .inl h3
    · by_cases h5 : x = xs.length
      · exact .inl h5
      · exact .inr ⟨⟨by omega, by omega⟩, h3⟩
  · rintro (h1 | ⟨⟨h1, h2⟩, h3⟩)
    · exact ⟨by omega, by omega, .inl h1⟩
    · exact ⟨by omega, by omega, .inr h3⟩
theorem rtR_nn : ∀ {l : List Int} {a : Int} {i : Nat}, a ∈ l → 0 ≤ rtR l a i
  | [], _, _, h => by simp at h
  | x :: l, a, i, h => by
    unfold rtR
    split
    · omega
    · rename_i hne
      exact rtR_nn ((List.mem_cons.1 h).resolve_left (fun e => hne e.symm))
theorem rtM_nn {xs : List UInt8} (h : tokM xs = true) (x : Int) : decide (0 ≤ rtM xs x) = cutB xs x := by
  cases hc : cutB xs x with
  | true => exact decide_eq_true (rtR_nn ((cuL_mem h x).2 hc))
  | false =>
    refine decide_eq_false fun h1 => ?_
    have := (cuL_mem h x).1 (rtR_mem h1)
    rw [hc] at this
    cases this
end Go.LX
