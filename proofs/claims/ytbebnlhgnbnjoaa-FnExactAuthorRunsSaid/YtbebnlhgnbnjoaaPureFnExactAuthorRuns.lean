/- AuthorRuns of the program and of the reference build the same list of runs, for every list of numbers; marking the argument or the result changes neither a second result nor the first one. No condition. -/
import Derived.Test.YtbebnlhgnbnjoaaPFnExactAuthorRunsx3
namespace Go.Proofs.Ytbebnlhgnbnjoaa.Pure
open Go.RowKit Go.Proofs.Ytbebnlhgnbnjoaa.PFnExactAuthorRuns Go.Proofs.YtbebnlhgnbnjoaaW.PrintWords Go.Proofs.YtbebnlhgnbnjoaaW.PrintLast

theorem w64 {n : Int} (h : -9223372036854775808 ≤ n ∧ n ≤ 9223372036854775807) : wrap64 n = n := by unfold wrap64; omega
theorem rd_nat (l : List Int) (i : Nat) : rd l (i : Int) = l.getD i 0 := rfl
theorem rdT_nat (l : List S67) (i : Nat) : rd_T67 l (i : Int) = l.getD i z67 := rfl

/-- what both do in one round -/
def nxt (xs : List Int) (i : Nat) (acc : List S67) : List S67 :=
  if 0 < i ∧ xs.getD i 0 = xs.getD (i - 1) 0 then acc.set (acc.length - 1) ⟨(acc.getD (acc.length - 1) z67).f0, (acc.getD (acc.length - 1) z67).f1 + 1⟩
  else acc ++ [⟨xs.getD i 0, 1⟩]
def G (xs : List Int) : Nat → List S67
  | 0 => []
  | i + 1 => nxt xs i (G xs i)

theorem getD_set_le (acc : List S67) (j : Nat) (v : S67) (n : Nat) (h : ∀ j, (acc.getD j z67).f1 ≤ n) (hv : v.f1 ≤ n + 1) : ∀ i, ((acc.set j v).getD i z67).f1 ≤ ((n + 1 : Nat) : Int) := by
  intro i
  have h1 := h i
  simp only [List.getD_eq_getElem?_getD, List.getElem?_set] at h1 ⊢
  split
  · split
    · simpa using hv
    · simp [z67]; omega
  · omega

theorem G_facts (xs : List Int) : ∀ i, (0 < i → 0 < (G xs i).length) ∧ (G xs i).length ≤ i ∧ (∀ j, ((G xs i).getD j z67).f1 ≤ i) ∧ (∀ j, 0 ≤ ((G xs i).getD j z67).f1) := by
  intro i
  induction i with
  | zero => simp [G, z67]
  | succ i ih =>
    obtain ⟨h1, h2, h3, h4⟩ := ih
    simp only [G, nxt]
    split
    · rename_i hc
      have := h1 hc.1
      refine ⟨fun _ => by simpa using this, by simp; omega, ?_, ?_⟩
      · refine getD_set_le _ _ _ i h3 ?_
        have := h3 ((G xs i).length - 1)
        simp only; omega
      · intro j
        have a := h4 j
        have b := h4 ((G xs i).length - 1)
        simp only [List.getD_eq_getElem?_getD, List.getElem?_set] at a b ⊢
        split
        · split
          · simp; omega
          · simp [z67]
        · exact a
    · refine ⟨fun _ => by simp, by simp; omega, ?_, ?_⟩
      · intro j
        have a := h3 j
        simp only [List.getD_eq_getElem?_getD, List.getElem?_append] at a ⊢
        split
        · omega
        · by_cases e : j - (G xs i).length = 0
          · rw [e]; simp; omega
          · simp [e, z67]; omega
      · intro j
        have a := h4 j
        simp only [List.getD_eq_getElem?_getD, List.getElem?_append] at a ⊢
        split
        · exact a
        · by_cases e : j - (G xs i).length = 0
          · rw [e]; simp
          · simp [e, z67]

theorem spec_loop (xs : List Int) (hn : xs.length ≤ 400) (d : Nat) : ∀ i, i + d = xs.length → Ev (fun k => spec_AuthorRuns.l0 k xs (G xs i) i) (G xs xs.length) := by
  induction d with
  | zero =>
    intro i hi
    obtain rfl : i = xs.length := by omega
    refine Ev.step (f := fun k => spec_AuthorRuns.j1 k xs (G xs xs.length) xs.length false) (fun k => by simp only [spec_AuthorRuns.l0]; rw [if_neg (by omega)]) ?_
    refine Ev.step (f := fun k => some (G xs xs.length)) (fun k => by simp only [spec_AuthorRuns.j1]; rw [if_neg (by simp)]) (Ev.now _)
  | succ d ih =>
    intro i hi
    obtain ⟨f1, f2, f3, f4⟩ := G_facts xs i
    refine Ev.step (f := fun k => spec_AuthorRuns.j1 k xs (G xs i) i true) (fun k => by simp only [spec_AuthorRuns.l0]; rw [if_pos (by omega), decide_eq_true (by omega)]) ?_
    refine Ev.step (f := fun k => spec_AuthorRuns.l0 k xs (G xs (i + 1)) ((i + 1 : Nat) : Int)) (fun k => ?_) (ih (i + 1) (by omega))
    have e1 : wrap64 ((i : Int) + 1) = ((i + 1 : Nat) : Int) := by rw [w64 (by omega)]; omega
    simp only [spec_AuthorRuns.j1]
    rw [if_pos trivial, e1]
    by_cases hp : 0 < i
    · have e2 : wrap64 ((i : Int) - 1) = ((i - 1 : Nat) : Int) := by rw [w64 (by omega)]; omega
      have hl := f1 hp
      have e3 : wrap64 (((G xs i).length : Int) - 1) = (((G xs i).length - 1 : Nat) : Int) := by rw [w64 (by omega)]; omega
      rw [if_pos (by omega), if_pos (by omega), if_pos (by omega), e2, if_pos (by omega), if_pos (by omega)]
      simp only [rd_nat, rdT_nat, e3, Int.toNat_natCast]
      by_cases hc : xs.getD i 0 = xs.getD (i - 1) 0
      · rw [if_pos hc, if_pos (by omega), if_pos (by omega)]
        have := f3 ((G xs i).length - 1)
        have := f4 ((G xs i).length - 1)
        rw [w64 (by omega)]
        simp only [G, nxt]
        rw [if_pos ⟨hp, hc⟩]
      · rw [if_neg hc, if_pos (by omega)]
        simp only [G, nxt]
        rw [if_neg (fun h => hc h.2)]
    · rw [if_neg (by omega), if_pos (by omega), if_pos (by omega), if_pos (by omega)]
      simp only [rd_nat, G, nxt]
      rw [if_neg (fun h => hp h.1)]

theorem impl_loop (xs : List Int) (hn : xs.length ≤ 400) (d : Nat) : ∀ i, i + d = xs.length → Ev (fun k => impl_AuthorRuns.l0 k xs (G xs i) xs xs.length i) (G xs xs.length) := by
  induction d with
  | zero =>
    intro i hi
    obtain rfl : i = xs.length := by omega
    exact Ev.step (f := fun k => some (G xs xs.length)) (fun k => by simp only [impl_AuthorRuns.l0]; rw [if_neg (by omega)]) (Ev.now _)
  | succ d ih =>
    intro i hi
    obtain ⟨f1, f2, f3, f4⟩ := G_facts xs i
    refine Ev.step (f := fun k => impl_AuthorRuns.l0 k xs (G xs (i + 1)) xs xs.length ((i + 1 : Nat) : Int)) (fun k => ?_) (ih (i + 1) (by omega))
    have e1 : wrap64 ((i : Int) + 1) = ((i + 1 : Nat) : Int) := by rw [w64 (by omega)]; omega
    have hnew : ∀ acc : List S67, ∀ x, acc.length ≤ 400 → (if 0 ≤ wrap64 (((acc ++ [(⟨x, 0⟩ : S67)]).length : Int) - 1) then if wrap64 (((acc ++ [(⟨x, 0⟩ : S67)]).length : Int) - 1) < ((acc ++ [(⟨x, 0⟩ : S67)]).length : Int) then impl_AuthorRuns.l0 k xs ((acc ++ [(⟨x, 0⟩ : S67)]).set (wrap64 (((acc ++ [(⟨x, 0⟩ : S67)]).length : Int) - 1)).toNat (⟨(rd_T67 (acc ++ [(⟨x, 0⟩ : S67)]) (wrap64 (((acc ++ [(⟨x, 0⟩ : S67)]).length : Int) - 1))).f0, wrap64 ((rd_T67 (acc ++ [(⟨x, 0⟩ : S67)]) (wrap64 (((acc ++ [(⟨x, 0⟩ : S67)]).length : Int) - 1))).f1 + 1)⟩ : S67)) xs xs.length ((i + 1 : Nat) : Int) else none else none) = impl_AuthorRuns.l0 k xs (acc ++ [(⟨x, 1⟩ : S67)]) xs xs.length ((i + 1 : Nat) : Int) := by
      intro acc x ha
      have e : wrap64 (((acc ++ [(⟨x, 0⟩ : S67)]).length : Int) - 1) = (acc.length : Int) := by rw [w64 (by simp; omega)]; simp
      rw [e, if_pos (by omega), if_pos (by simp only [List.length_append, List.length_cons, List.length_nil]; omega)]
      simp [rdT_nat, w64]
    simp only [impl_AuthorRuns.l0]
    rw [if_pos (by omega), if_pos (by omega), if_pos (by omega), e1]
    by_cases hp : 0 < i
    · have e2 : wrap64 ((i : Int) - 1) = ((i - 1 : Nat) : Int) := by rw [w64 (by omega)]; omega
      have hl := f1 hp
      have e3 : wrap64 (((G xs i).length : Int) - 1) = (((G xs i).length - 1 : Nat) : Int) := by rw [w64 (by omega)]; omega
      rw [if_neg (by omega), e2, if_pos (by omega), if_pos (by omega)]
      simp only [rd_nat, e3]
      by_cases hc : xs.getD (i - 1) 0 = xs.getD i 0
      · rw [if_pos hc, if_pos (by omega), if_pos (by omega)]
        simp only [rdT_nat, Int.toNat_natCast]
        have := f3 ((G xs i).length - 1)
        have := f4 ((G xs i).length - 1)
        rw [w64 (by omega)]
        simp only [G, nxt]
        rw [if_pos ⟨hp, hc.symm⟩]
      · rw [if_neg hc, if_pos (by omega)]
        simp only [Option.bind_some]
        rw [hnew _ _ (by omega)]
        simp only [G, nxt]
        rw [if_neg (fun h => hc h.2.symm)]
    · rw [if_pos (by omega), if_pos (by omega)]
      simp only [Option.bind_some, rd_nat]
      rw [hnew _ _ (by omega)]
      simp only [G, nxt]
      rw [if_neg (fun h => hp h.1)]

def A (xs : List Int) : List S67 := if xs.length ≤ 400 then G xs xs.length else []
theorem spec_any (xs : List Int) : Ev (fun k => spec_AuthorRuns.f k xs) (A xs) := by
  unfold A
  split
  · exact spec_loop xs ‹_› xs.length 0 (by omega)
  · refine Ev.step (g := fun k => spec_AuthorRuns.l0 k xs [] 0) (f := fun k => spec_AuthorRuns.j1 k xs [] 0 false) (fun k => by simp only [spec_AuthorRuns.l0]; rw [if_pos (by omega), decide_eq_false (by omega)]) ?_
    exact Ev.step (f := fun k => some []) (fun k => by simp only [spec_AuthorRuns.j1]; rw [if_neg (by simp)]) (Ev.now _)
theorem impl_any (xs : List Int) : Ev (fun k => impl_AuthorRuns.f k xs) (A xs) := by
  unfold A
  split
  · refine Ev.congr (f := fun k => impl_AuthorRuns.l0 k xs [] xs xs.length 0) (fun k => by simp only [impl_AuthorRuns.f]; rw [if_neg (by omega)]) (impl_loop xs ‹_› xs.length 0 (by omega))
  · exact Ev.congr (f := fun k => some []) (fun k => by simp only [impl_AuthorRuns.f]; rw [if_pos (by omega)]) (Ev.now _)
theorem A_facts (xs : List Int) : (A xs).length ≤ 400 := by
  unfold A
  split
  · have := (G_facts xs xs.length).2.1; omega
  · simp

theorem toInt_loop (xs : List Int) (hn : xs.length ≤ 1048576) (d : Nat) : ∀ i ys, i + d = xs.length → ys.length = d → Ev (fun k => laws_toIntS.l0 k xs (xs.take i ++ ys) i) xs := by
  induction d with
  | zero =>
    intro i ys hi hy
    obtain rfl : i = xs.length := by omega
    have : ys = [] := List.length_eq_zero_iff.1 hy
    subst this
    exact Ev.step (f := fun k => some xs) (fun k => by simp only [laws_toIntS.l0]; rw [if_neg (by omega)]; simp) (Ev.now _)
  | succ d ih =>
    intro i ys hi hy
    obtain ⟨y, ys, rfl⟩ := List.exists_cons_of_length_eq_add_one hy
    refine Ev.step (f := fun k => laws_toIntS.l0 k xs (xs.take (i + 1) ++ ys) ((i + 1 : Nat) : Int)) (fun k => ?_) (ih (i + 1) ys (by omega) (by simpa using hy))
    simp only [laws_toIntS.l0]
    rw [if_pos (by omega), if_pos (by omega), if_pos (by simp; omega), w64 (by omega)]
    congr 1
    simp only [rd_nat, Int.toNat_natCast]
    have hl : (xs.take i).length = i := by simp; omega
    rw [List.set_append_right _ _ (by omega), hl, Nat.sub_self, List.set_cons_zero, List.take_succ_eq_append_getElem (by omega)]
    simp only [List.getD_eq_getElem?_getD, List.getElem?_eq_getElem (show i < xs.length by omega), Option.getD_some, List.append_assoc, List.cons_append, List.nil_append]
theorem toInt_any (xs : List Int) (hn : xs.length ≤ 1048576) : Ev (fun k => laws_toIntS.f k xs) xs := by
  refine Ev.congr (f := fun k => laws_toIntS.l0 k xs (List.replicate xs.length 0) 0) (fun k => ?_) ?_
  · simp only [laws_toIntS.f]; rw [if_pos (by omega), if_pos (by omega)]; simp
  · exact toInt_loop xs hn xs.length 0 (List.replicate xs.length 0) (by omega) (by simp)

theorem eqInt_any (xs : List Int) (hn : xs.length ≤ 1048576) : Ev (fun k => laws_eqIntS.f k xs xs) true := by
  refine Ev.congr (f := fun k => laws_eqIntS.l0 k xs xs 0) (fun k => by simp only [laws_eqIntS.f, if_true]) ?_
  have : ∀ d i : Nat, i + d = xs.length → Ev (fun k => laws_eqIntS.l0 k xs xs i) true := by
    intro d
    induction d with
    | zero => intro i hi; exact Ev.step (f := fun k => some true) (fun k => by simp only [laws_eqIntS.l0]; rw [if_neg (by omega)]) (Ev.now _)
    | succ d ih =>
      intro i hi
      refine Ev.step (f := fun k => laws_eqIntS.l0 k xs xs ((i + 1 : Nat) : Int)) (fun k => ?_) (ih (i + 1) (by omega))
      simp only [laws_eqIntS.l0]
      rw [if_pos (by omega), if_pos (by omega), if_pos (by omega), w64 (by omega)]; simp
  exact this xs.length 0 (by omega)

theorem eqRun_any (xs : List S67) (hn : xs.length ≤ 400) : Ev (fun k => laws_eqRunS.f k xs xs) true := by
  refine Ev.congr (f := fun k => laws_eqRunS.l0 k xs xs 0) (fun k => by simp only [laws_eqRunS.f, if_true]) ?_
  have : ∀ d i : Nat, i + d = xs.length → Ev (fun k => laws_eqRunS.l0 k xs xs i) true := by
    intro d
    induction d with
    | zero => intro i hi; exact Ev.step (f := fun k => some true) (fun k => by simp only [laws_eqRunS.l0]; rw [if_neg (by omega)]) (Ev.now _)
    | succ d ih =>
      intro i hi
      refine Ev.step (f := fun k => laws_eqRunS.l0 k xs xs ((i + 1 : Nat) : Int)) (fun k => ?_) (ih (i + 1) (by omega))
      simp only [laws_eqRunS.l0, laws_eqRun.f]
      rw [if_pos (by omega), if_pos (by omega), if_pos (by omega), w64 (by omega)]; simp
  exact this xs.length 0 (by omega)

theorem markInt_any (xs : List Int) (hn : xs.length ≤ 1048576) : ∃ r, 0 ≤ r.1 ∧ Ev (fun k => laws_markIntS.f k xs 1) r := by
  have : ∀ (d i : Nat) (ys : List Int), i + d = xs.length → ys.length = xs.length → ∃ r, 0 ≤ r.1 ∧ Ev (fun k => laws_markIntS.l0 k ys ((1 + i : Nat) : Int) i) r := by
    intro d
    induction d with
    | zero => intro i ys hi hy; exact ⟨(((1 + i : Nat) : Int), ys), by simp; omega, Ev.step (f := fun k => some (((1 + i : Nat) : Int), ys)) (fun k => by simp only [laws_markIntS.l0]; rw [if_neg (by omega)]) (Ev.now _)⟩
    | succ d ih =>
      intro i ys hi hy
      obtain ⟨r, h0, h⟩ := ih (i + 1) (ys.set i ((1 + i : Nat) : Int)) (by omega) (by simpa using hy)
      refine ⟨r, h0, Ev.step (fun k => ?_) h⟩
      simp only [laws_markIntS.l0]
      rw [if_pos (by omega), if_pos (by omega), w64 (by omega), w64 (by omega)]; simp; rfl
  exact this xs.length 0 xs (by omega) rfl

theorem heldRun_loop (ys : List S67) (hn : ys.length ≤ 400) (h : ∀ i < ys.length, ys.getD i z67 = ⟨2 * i + 1, 2 * i + 2⟩) (d : Nat) : ∀ i, i + d = ys.length → Ev (fun k => laws_heldRunS.l0 k ys ((2 * i + 1 : Nat) : Int) i) ((2 * ys.length + 1 : Nat) : Int) := by
  induction d with
  | zero => intro i hi; obtain rfl : i = ys.length := by omega
            exact Ev.step (f := fun k => some ((2 * ys.length + 1 : Nat) : Int)) (fun k => by simp only [laws_heldRunS.l0]; rw [if_neg (by omega)]) (Ev.now _)
  | succ d ih =>
    intro i hi
    refine Ev.step (f := fun k => laws_heldRunS.l0 k ys ((2 * (i + 1) + 1 : Nat) : Int) ((i + 1 : Nat) : Int)) (fun k => ?_) (ih (i + 1) (by omega))
    have hi' := h i (by omega)
    simp only [laws_heldRunS.l0, rdT_nat, hi']
    rw [w64 (n := ((2 * i + 1 : Nat) : Int) + 1) (by omega), w64 (n := (i : Int) + 1) (by omega), w64 (by omega)]
    rw [if_pos (by omega), if_pos (by omega), if_pos (by omega), if_pos (by omega)]
    congr 1
theorem markRun_any (xs : List S67) (hn : xs.length ≤ 400) : ∃ ys, Ev (fun k => laws_markRunS.f k xs 1) (((2 * xs.length + 1 : Nat) : Int), ys) ∧ ys.length = xs.length ∧ ∀ i < ys.length, ys.getD i z67 = ⟨2 * i + 1, 2 * i + 2⟩ := by
  have : ∀ (d i : Nat) (ys : List S67), i + d = xs.length → ys.length = xs.length → (∀ j < i, ys.getD j z67 = ⟨2 * j + 1, 2 * j + 2⟩) → ∃ zs, Ev (fun k => laws_markRunS.l0 k ys ((2 * i + 1 : Nat) : Int) i) (((2 * xs.length + 1 : Nat) : Int), zs) ∧ zs.length = xs.length ∧ ∀ i < zs.length, zs.getD i z67 = ⟨2 * i + 1, 2 * i + 2⟩ := by
    intro d
    induction d with
    | zero =>
      intro i ys hi hy hj
      obtain rfl : i = xs.length := by omega
      exact ⟨ys, Ev.step (f := fun k => some (((2 * xs.length + 1 : Nat) : Int), ys)) (fun k => by simp only [laws_markRunS.l0]; rw [if_neg (by omega)]) (Ev.now _), hy, by rw [hy]; exact hj⟩
    | succ d ih =>
      intro i ys hi hy hj
      obtain ⟨zs, h, h1, h2⟩ := ih (i + 1) (ys.set i ⟨2 * i + 1, 2 * i + 2⟩) (by omega) (by simpa using hy) (by
        intro j hlt
        have hj' := hj j
        simp only [List.getD_eq_getElem?_getD, List.getElem?_set] at hj' ⊢
        by_cases e : i = j
        · subst e; rw [if_pos rfl, if_pos (by omega)]; rfl
        · rw [if_neg e]; exact hj' (by omega))
      refine ⟨zs, Ev.step (fun k => ?_) h, h1, h2⟩
      simp only [laws_markRunS.l0]
      rw [if_pos (by omega), if_pos (by omega), w64 (n := ((2 * i + 1 : Nat) : Int) + 1) (by omega), w64 (n := (i : Int) + 1) (by omega), w64 (by omega)]
      simp only [Option.bind_some, rdT_nat, Int.toNat_natCast]
      have e : (ys.set i ⟨((2 * i + 1 : Nat) : Int), (ys.getD i z67).f1⟩).getD i z67 = ⟨((2 * i + 1 : Nat) : Int), (ys.getD i z67).f1⟩ := by
        simp [List.getD_eq_getElem?_getD, show i < ys.length by omega]
      rw [e, List.set_set]
      congr 1
  obtain ⟨zs, h, h1, h2⟩ := this xs.length 0 xs (by omega) rfl (by omega)
  exact ⟨zs, h, h1, h2⟩

theorem FnExactAuthorRuns : laws_FnExactAuthorRuns.Pure := by
  intro xs _ _ _
  refine Ev.rounds (r := true) ?_
  by_cases hbig : (xs.length : Int) > 1048576
  · exact Ev.congr (f := fun _ => some true) (fun k => by simp only [laws_FnExactAuthorRuns.f]; rw [if_pos hbig]) (Ev.now _)
  · have hn : xs.length ≤ 1048576 := by omega
    have hA := A_facts xs
    obtain ⟨r, hr0, hr⟩ := markInt_any xs hn
    obtain ⟨ys, hy, hyl, hyv⟩ := markRun_any (A xs) hA
    have hheld : Ev (fun k => laws_heldRunS.f k ys 1) ((2 * (A xs).length + 1 : Nat) : Int) := by
      have := heldRun_loop ys (by omega) hyv ys.length 0 (by omega)
      rw [hyl] at this
      exact this
    have hfin : Ev (fun k => laws_FnExactAuthorRuns.j0 k xs (A xs) (A xs) false) true := by
      refine Ev.step (f := fun k => (laws_markRunS.f k (A xs) 1).bind fun bt170 => ((laws_heldRunS.f k bt170.2 1).bind fun t172 => (if t172 < 0 then (some false) else (if t172 = bt170.1 then ((laws_toIntS.f k xs).bind fun t173 => ((impl_AuthorRuns.f k t173).bind fun t176 => ((laws_eqRunS.f k t176 (A xs)).bind fun t179 => (if t179 = true then ((laws_heldRunS.f k bt170.2 1).bind fun t180 => (if t180 < 0 then (some false) else (if t180 = bt170.1 then (some true) else (some false)))) else (some false))))) else (some false))))) (fun k => by simp only [laws_FnExactAuthorRuns.j0]; rw [if_neg (by simp)]) ?_
      refine Ev.bind hy (Ev.bind hheld ?_)
      refine Ev.congr (fun k => by rw [if_neg (by omega), if_pos rfl]) ?_
      refine Ev.bind (toInt_any xs hn) (Ev.bind (impl_any xs) (Ev.bind (eqRun_any _ hA) ?_))
      refine Ev.congr (fun k => by rw [if_pos rfl]) (Ev.bind hheld ?_)
      exact Ev.congr (fun k => by rw [if_neg (by omega), if_pos rfl]) (Ev.now _)
    refine Ev.congr (fun k => by simp only [laws_FnExactAuthorRuns.f]; rw [if_neg hbig]) ?_
    refine Ev.bind (toInt_any xs hn) (Ev.bind (spec_any xs) (Ev.bind (toInt_any xs hn) (Ev.bind (impl_any xs) (Ev.bind (eqRun_any _ hA) ?_))))
    refine Ev.congr (fun k => by rw [if_pos rfl]) (Ev.bind (toInt_any xs hn) (Ev.bind (eqInt_any xs hn) ?_))
    refine Ev.congr (fun k => by rw [if_pos rfl]) (Ev.bind hr ?_)
    refine Ev.congr (fun k => by rw [if_neg (by omega)]) (Ev.bind (eqRun_any _ hA) ?_)
    exact hfin

end Go.Proofs.Ytbebnlhgnbnjoaa.Pure
