/- A part of the proof of the statement in the row text. -/
import Derived.Test.YtojaiockbpcilaaLyG5
import Derived.Test.YtojaiockbpcilaaLyG2
set_option linter.unusedVariables false
set_option linter.unusedSimpArgs false
namespace Go.LX
open Go.Proofs
attribute [local irreducible] W WO OpW RW EndQ
set_option maxHeartbeats 4000000 in
set_option maxRecDepth 20000 in
theorem ipush_ok (xs ys : List Ed) (e : Ed) (hx : xs.length ≤ 1000) (hy : ys.length ≤ 1000) (hw : ∀ e ∈ xs, e.2.2.length ≤ 16777216) (he : e.2.2.length ≤ 16777216) : FnC Try.prog 11 [aSt xs ys, aEd e] [aSt0, aEd0] (.tu [(true, [oEs (pshM xs ys e).1, oEs (pshM xs ys e).2]), (false, [sB (pshB xs ys e)])]) := by
  cases h : pshB xs ys e with
  | true =>
    have h' := h
    simp only [pshB, Bool.and_eq_true] at h'
    have h6 := allS_len h'.1.1
    have e1 : pshM xs ys e = (topL xs e, []) := by rw [pshM, if_pos h]
    rw [e1]
    clear e1 h
    obtain ⟨⟨h1, h2⟩, h3⟩ := h'
    have hw2 : ∀ z ∈ topL xs e, z.2.2.length ≤ 16777216 := fun z hz => (topL_mem hz).elim (hw z) fun h => by rw [h]; exact he
    have hl2 : (topL xs e).length ≤ 100 := Nat.le_trans topL_len (by decide)
    refine FnC_of (fn := Try.f11) Try.func11 rfl rfl rfl ?_
    repeat' (first
      | exact trivial
      | (refine inWO ?_; first
        | refine WO_runE (nw := true) rfl rfl ?_ ?_
        | refine WO_runG (nw := true) rfl rfl rfl rfl rfl ?_ ?_
        | refine WO_runU (nw := true) rfl rfl rfl rfl rfl ?_ ?_
        | refine WO_run1 (nw := true) rfl rfl ?_ ?_
        | refine WO_cons rfl ?_
        | refine WO_gT rfl rfl rfl rfl rfl ?_
        | (refine WO_split rfl rfl rfl rfl ?_ ?_ <;> intro hq <;> try (exfalso; (simp_all) <;> omega))
        | refine WO_nil ?_)
      | (refine inRW ?_; first
        | refine RW_runE (nw := true) rfl rfl (fun _ _ => rfl) rfl ?_ ?_
        | refine RW_runG (nw := true) rfl rfl rfl rfl rfl (fun _ _ => rfl) rfl ?_ ?_
        | refine RW_runU (nw := true) rfl rfl rfl rfl rfl (fun _ _ => rfl) rfl ?_ ?_
        | refine RW_op (us := ?_) (ub := ?_) (fp := ?_) rfl (fun s0 b0 => ?_) ?_ ?_
        | refine RW_opT (us := ?_) (ub := ?_) (fp := ?_) rfl rfl rfl rfl (fun s0 b0 => ?_) ?_ ?_
        | (refine RW_split rfl rfl rfl ?_ ?_ <;> intro hq <;> try (exfalso; (simp_all) <;> omega))
        | refine RW_nil ?_ (by first | decide +kernel | kernel_rfl))
      | (refine gate 1 rfl ?_; first
        | refine callD false (isstack_ok xs ys (by omega) (by omega)) rfl rfl rfl rfl (by (repeat' (first | exact trivial | refine And.intro ?_ ?_ | rfl)); done) rfl rfl ?_
        | refine callD false (issmall_ok e) rfl rfl rfl rfl (by (repeat' (first | exact trivial | refine And.intro ?_ ?_ | rfl)); done) rfl rfl ?_
        | refine callD false (ipush0_ok xs ys e h6 hw he) rfl rfl rfl rfl (by (repeat' (first | exact trivial | refine And.intro ?_ ?_ | rfl)); done) rfl rfl ?_
        | refine callD true (icopied_ok (topL xs e) [] hl2 (by decide) hw2 (by simp)) rfl rfl rfl rfl (by (repeat' (first | exact trivial | refine And.intro ?_ ?_ | rfl)); done) rfl rfl ?_)
      | (refine gate 5 rfl ?_; first
        | refine litR rfl rfl rfl rfl rfl rfl rfl rfl ?_
        | refine litW rfl rfl rfl rfl rfl rfl ?_)
      | (refine gate 2 rfl ?_; first
        | refine apOS rfl rfl rfl rfl rfl rfl rfl rfl rfl rfl rfl ?_ ?_ ?_
        | refine apOL rfl rfl rfl rfl rfl rfl rfl rfl rfl rfl rfl rfl ?_ ?_ ?_
        | refine apNS rfl rfl rfl rfl rfl rfl rfl rfl rfl rfl rfl ?_ ?_ ?_
        | refine apNL rfl rfl rfl rfl rfl rfl rfl rfl rfl rfl rfl rfl ?_ ?_ ?_
        | refine apDO rfl rfl rfl rfl rfl rfl rfl rfl rfl rfl rfl rfl rfl rfl ?_ ?_ ?_
        | refine apDN rfl rfl rfl rfl rfl rfl rfl rfl rfl rfl rfl rfl rfl rfl ?_ ?_ ?_
        | refine op_apMk _ rfl rfl rfl rfl rfl rfl rfl rfl rfl rfl rfl rfl rfl ?_ ?_ ?_ ?_
        | refine apDS rfl rfl rfl rfl rfl rfl rfl rfl rfl rfl rfl ?_ ?_ ?_)
      | (refine gate 6 rfl ?_; refine mkS rfl rfl rfl rfl rfl rfl rfl rfl rfl rfl rfl rfl rfl ?_ ?_ ?_ ?_)
      | (refine gate 6 rfl ?_; refine op_makeD _ rfl rfl rfl rfl rfl rfl rfl rfl rfl rfl rfl rfl rfl ?_ ?_ ?_ ?_)
      | (refine gate 0 rfl ?_; refine op_storeD rfl rfl rfl rfl rfl rfl rfl rfl rfl rfl ?_)
      | (refine gate 3 rfl ?_; refine op_capN rfl rfl rfl rfl rfl ?_)
      | (refine gate 3 rfl ?_; refine op_copy rfl rfl rfl rfl rfl rfl rfl rfl rfl rfl rfl ?_)
      | (refine gate 8 rfl ?_; refine op_mkFn rfl rfl rfl rfl ?_)
      | (refine gate 7 rfl ?_; refine op_nil rfl rfl rfl rfl rfl rfl (fun b hb => ?_))
      | (refine inW ?_; first
        | refine W_seq ?_
        | refine W_region ?_
        | refine W_drawN (by decide +kernel) ?_
        | refine W_block ?_
        | refine W_skip ?_
        | refine W_exit ?_
        | refine W_ret ?_
        | refine W_condT rfl rfl ?_
        | refine W_condF rfl rfl ?_
        | (refine W_condB rfl ?_ ?_ <;> intro hq <;> try (exfalso; (simp_all) <;> omega)))
      | (refine inE ?_; first
        | refine end_d rfl rfl rfl rfl ?_ ?_
        | refine end_o rfl rfl rfl rfl ?_ ?_
        | refine end_of rfl rfl rfl ?_ ?_)
      | refine rsOne ?_
      | refine msPd rfl ?_
      | refine msPn ?_
      | refine msPo rfl ?_
      | refine And.intro ?_ ?_
      | (show List.length _ ≠ 1; simp)
      | (show (_ : Int) ≤ _; first | omega | (simp [IntKind.bits, dflt]; done) | (simp [IntKind.bits, dflt]; omega) | (simp at *; omega))
      | (show (_ : Int) < _; first | omega | (simp [IntKind.bits, dflt]; done) | (simp [IntKind.bits, dflt]; omega) | (simp at *; omega))
      | (show (_ : Nat) ≤ _; first | omega | (unfold maxLen; omega) | (simp [IntKind.bits, dflt]; done) | (simp [IntKind.bits, dflt]; omega) | (simp at *; omega))
      | rfl)
  | false =>
    have e1 : pshM xs ys e = ([], []) := by rw [pshM, if_neg (by rw [h]; simp)]
    rw [e1]
    clear e1
    simp only [pshB] at h
    refine FnC_of (fn := Try.f11) Try.func11 rfl rfl rfl ?_
    repeat' (first
      | exact trivial
      | (refine inWO ?_; first
        | refine WO_runE (nw := true) rfl rfl ?_ ?_
        | refine WO_runG (nw := true) rfl rfl rfl rfl rfl ?_ ?_
        | refine WO_runU (nw := true) rfl rfl rfl rfl rfl ?_ ?_
        | refine WO_run1 (nw := true) rfl rfl ?_ ?_
        | refine WO_cons rfl ?_
        | refine WO_gT rfl rfl rfl rfl rfl ?_
        | (refine WO_split rfl rfl rfl rfl ?_ ?_ <;> intro hq <;> try (exfalso; (simp_all) <;> omega))
        | refine WO_nil ?_)
      | (refine inRW ?_; first
        | refine RW_runE (nw := true) rfl rfl (fun _ _ => rfl) rfl ?_ ?_
        | refine RW_runG (nw := true) rfl rfl rfl rfl rfl (fun _ _ => rfl) rfl ?_ ?_
        | refine RW_runU (nw := true) rfl rfl rfl rfl rfl (fun _ _ => rfl) rfl ?_ ?_
        | refine RW_op (us := ?_) (ub := ?_) (fp := ?_) rfl (fun s0 b0 => ?_) ?_ ?_
        | refine RW_opT (us := ?_) (ub := ?_) (fp := ?_) rfl rfl rfl rfl (fun s0 b0 => ?_) ?_ ?_
        | (refine RW_split rfl rfl rfl ?_ ?_ <;> intro hq <;> try (exfalso; (simp_all) <;> omega))
        | refine RW_nil ?_ (by first | decide +kernel | kernel_rfl))
      | (refine gate 1 rfl ?_; first
        | refine callD false (isstack_ok xs ys (by omega) (by omega)) rfl rfl rfl rfl (by (repeat' (first | exact trivial | refine And.intro ?_ ?_ | rfl)); done) rfl rfl ?_
        | refine callD false (issmall_ok e) rfl rfl rfl rfl (by (repeat' (first | exact trivial | refine And.intro ?_ ?_ | rfl)); done) rfl rfl ?_)
      | (refine gate 5 rfl ?_; first
        | refine litR rfl rfl rfl rfl rfl rfl rfl rfl ?_
        | refine litW rfl rfl rfl rfl rfl rfl ?_)
      | (refine gate 2 rfl ?_; first
        | refine apOS rfl rfl rfl rfl rfl rfl rfl rfl rfl rfl rfl ?_ ?_ ?_
        | refine apOL rfl rfl rfl rfl rfl rfl rfl rfl rfl rfl rfl rfl ?_ ?_ ?_
        | refine apNS rfl rfl rfl rfl rfl rfl rfl rfl rfl rfl rfl ?_ ?_ ?_
        | refine apNL rfl rfl rfl rfl rfl rfl rfl rfl rfl rfl rfl rfl ?_ ?_ ?_
        | refine apDO rfl rfl rfl rfl rfl rfl rfl rfl rfl rfl rfl rfl rfl rfl ?_ ?_ ?_
        | refine apDN rfl rfl rfl rfl rfl rfl rfl rfl rfl rfl rfl rfl rfl rfl ?_ ?_ ?_
        | refine op_apMk _ rfl rfl rfl rfl rfl rfl rfl rfl rfl rfl rfl rfl rfl ?_ ?_ ?_ ?_
        | refine apDS rfl rfl rfl rfl rfl rfl rfl rfl rfl rfl rfl ?_ ?_ ?_)
      | (refine gate 6 rfl ?_; refine mkS rfl rfl rfl rfl rfl rfl rfl rfl rfl rfl rfl rfl rfl ?_ ?_ ?_ ?_)
      | (refine gate 6 rfl ?_; refine op_makeD _ rfl rfl rfl rfl rfl rfl rfl rfl rfl rfl rfl rfl rfl ?_ ?_ ?_ ?_)
      | (refine gate 0 rfl ?_; refine op_storeD rfl rfl rfl rfl rfl rfl rfl rfl rfl rfl ?_)
      | (refine gate 3 rfl ?_; refine op_capN rfl rfl rfl rfl rfl ?_)
      | (refine gate 3 rfl ?_; refine op_copy rfl rfl rfl rfl rfl rfl rfl rfl rfl rfl rfl ?_)
      | (refine gate 8 rfl ?_; refine op_mkFn rfl rfl rfl rfl ?_)
      | (refine gate 7 rfl ?_; refine op_nil rfl rfl rfl rfl rfl rfl (fun b hb => ?_))
      | (refine inW ?_; first
        | refine W_seq ?_
        | refine W_region ?_
        | refine W_drawN (by decide +kernel) ?_
        | refine W_block ?_
        | refine W_skip ?_
        | refine W_exit ?_
        | refine W_ret ?_
        | refine W_condT rfl rfl ?_
        | refine W_condF rfl rfl ?_
        | (refine W_condB rfl ?_ ?_ <;> intro hq <;> try (exfalso; (simp_all) <;> omega)))
      | (refine inE ?_; first
        | refine end_d rfl rfl rfl rfl ?_ ?_
        | refine end_o rfl rfl rfl rfl ?_ ?_
        | refine end_of rfl rfl rfl ?_ ?_)
      | refine rsOne ?_
      | refine msPd rfl ?_
      | refine msPn ?_
      | refine msPo rfl ?_
      | refine And.intro ?_ ?_
      | (show List.length _ ≠ 1; simp)
      | (show (_ : Int) ≤ _; first | omega | (simp [IntKind.bits, dflt]; done) | (simp [IntKind.bits, dflt]; omega) | (simp at *; omega))
      | (show (_ : Int) < _; first | omega | (simp [IntKind.bits, dflt]; done) | (simp [IntKind.bits, dflt]; omega) | (simp at *; omega))
      | (show (_ : Nat) ≤ _; first | omega | (unfold maxLen; omega) | (simp [IntKind.bits, dflt]; done) | (simp [IntKind.bits, dflt]; omega) | (simp at *; omega))
      | rfl)
    all_goals (exfalso; simp_all)
set_option maxHeartbeats 4000000 in
set_option maxRecDepth 20000 in
theorem istop_ok (xs ys : List Ed) (r : Bool) (hx : xs.length ≤ 1000) (hy : ys.length ≤ 1000) (hw : ∀ e ∈ xs, e.2.2.length ≤ 16777216) (hv : ∀ e ∈ ys, e.2.2.length ≤ 16777216) : FnC Try.prog 12 [aSt xs ys, aB r] [aSt0, aX] (.tu [(true, [sI (topM xs ys r).1, sI (topM xs ys r).2.1, oBy (topM xs ys r).2.2]), (false, [sB (topB xs ys r)])]) := by
  have ht := itop_ok xs ys r hx hy hw hv
  cases hs : (allS xs && allS ys) with
  | true =>
    have e0 : topB xs ys r = !decide ((bif r then ys else xs).length = 0) := by rw [topB, hs]; rfl
    have e1 : topM xs ys r = (if (bif r then ys else xs).length = 0 then ((0, 0, []) : Ed) else (bif r then ys else xs).getD ((bif r then ys else xs).length - 1) (0, 0, [])) := by
      rw [topM, e0]
      by_cases h0 : (bif r then ys else xs).length = 0
      · rw [if_pos h0, if_neg (by simp [h0])]
      · rw [if_neg h0, if_pos (by simp [h0])]
    rw [e0, e1]
    clear e0 e1
    refine FnC_of (fn := Try.f12) Try.func12 rfl rfl rfl ?_
    repeat' (first
      | exact trivial
      | (refine inWO ?_; first
        | refine WO_runE (nw := true) rfl rfl ?_ ?_
        | refine WO_runG (nw := true) rfl rfl rfl rfl rfl ?_ ?_
        | refine WO_runU (nw := true) rfl rfl rfl rfl rfl ?_ ?_
        | refine WO_run1 (nw := true) rfl rfl ?_ ?_
        | refine WO_cons rfl ?_
        | refine WO_gT rfl rfl rfl rfl rfl ?_
        | (refine WO_split rfl rfl rfl rfl ?_ ?_ <;> intro hq <;> try (exfalso; (simp_all) <;> omega))
        | refine WO_nil ?_)
      | (refine inRW ?_; first
        | refine RW_runE (nw := true) rfl rfl (fun _ _ => rfl) rfl ?_ ?_
        | refine RW_runG (nw := true) rfl rfl rfl rfl rfl (fun _ _ => rfl) rfl ?_ ?_
        | refine RW_runU (nw := true) rfl rfl rfl rfl rfl (fun _ _ => rfl) rfl ?_ ?_
        | refine RW_op (us := ?_) (ub := ?_) (fp := ?_) rfl (fun s0 b0 => ?_) ?_ ?_
        | refine RW_opT (us := ?_) (ub := ?_) (fp := ?_) rfl rfl rfl rfl (fun s0 b0 => ?_) ?_ ?_
        | (refine RW_split rfl rfl rfl ?_ ?_ <;> intro hq <;> try (exfalso; (simp_all) <;> omega))
        | refine RW_nil ?_ (by first | decide +kernel | kernel_rfl))
      | (refine gate 1 rfl ?_; first
        | refine callD false (isstack_ok xs ys (by omega) (by omega)) rfl rfl rfl rfl (by (repeat' (first | exact trivial | refine And.intro ?_ ?_ | rfl)); done) rfl rfl ?_
        | refine callD false (ht) rfl rfl rfl rfl (by (repeat' (first | exact trivial | refine And.intro ?_ ?_ | rfl)); done) rfl rfl ?_)
      | (refine gate 5 rfl ?_; first
        | refine litR rfl rfl rfl rfl rfl rfl rfl rfl ?_
        | refine litW rfl rfl rfl rfl rfl rfl ?_)
      | (refine gate 2 rfl ?_; first
        | refine apOS rfl rfl rfl rfl rfl rfl rfl rfl rfl rfl rfl ?_ ?_ ?_
        | refine apOL rfl rfl rfl rfl rfl rfl rfl rfl rfl rfl rfl rfl ?_ ?_ ?_
        | refine apNS rfl rfl rfl rfl rfl rfl rfl rfl rfl rfl rfl ?_ ?_ ?_
        | refine apNL rfl rfl rfl rfl rfl rfl rfl rfl rfl rfl rfl rfl ?_ ?_ ?_
        | refine apDO rfl rfl rfl rfl rfl rfl rfl rfl rfl rfl rfl rfl rfl rfl ?_ ?_ ?_
        | refine apDN rfl rfl rfl rfl rfl rfl rfl rfl rfl rfl rfl rfl rfl rfl ?_ ?_ ?_
        | refine op_apMk _ rfl rfl rfl rfl rfl rfl rfl rfl rfl rfl rfl rfl rfl ?_ ?_ ?_ ?_
        | refine apDS rfl rfl rfl rfl rfl rfl rfl rfl rfl rfl rfl ?_ ?_ ?_)
      | (refine gate 6 rfl ?_; refine mkS rfl rfl rfl rfl rfl rfl rfl rfl rfl rfl rfl rfl rfl ?_ ?_ ?_ ?_)
      | (refine gate 6 rfl ?_; refine op_makeD _ rfl rfl rfl rfl rfl rfl rfl rfl rfl rfl rfl rfl rfl ?_ ?_ ?_ ?_)
      | (refine gate 0 rfl ?_; refine op_storeD rfl rfl rfl rfl rfl rfl rfl rfl rfl rfl ?_)
      | (refine gate 3 rfl ?_; refine op_capN rfl rfl rfl rfl rfl ?_)
      | (refine gate 3 rfl ?_; refine op_copy rfl rfl rfl rfl rfl rfl rfl rfl rfl rfl rfl ?_)
      | (refine gate 8 rfl ?_; refine op_mkFn rfl rfl rfl rfl ?_)
      | (refine gate 7 rfl ?_; refine op_nil rfl rfl rfl rfl rfl rfl (fun b hb => ?_))
      | (refine inW ?_; first
        | refine W_seq ?_
        | refine W_region ?_
        | refine W_drawN (by decide +kernel) ?_
        | refine W_block ?_
        | refine W_skip ?_
        | refine W_exit ?_
        | refine W_ret ?_
        | refine W_condT rfl rfl ?_
        | refine W_condF rfl rfl ?_
        | (refine W_condB rfl ?_ ?_ <;> intro hq <;> try (exfalso; (simp_all) <;> omega)))
      | (refine inE ?_; first
        | refine end_d rfl rfl rfl rfl ?_ ?_
        | refine end_o rfl rfl rfl rfl ?_ ?_
        | refine end_of rfl rfl rfl ?_ ?_)
      | refine rsOne ?_
      | refine msPd rfl ?_
      | refine msPn ?_
      | refine msPo rfl ?_
      | refine And.intro ?_ ?_
      | (show List.length _ ≠ 1; simp)
      | (show (_ : Int) ≤ _; first | omega | (simp [IntKind.bits, dflt]; done) | (simp [IntKind.bits, dflt]; omega) | (simp at *; omega))
      | (show (_ : Int) < _; first | omega | (simp [IntKind.bits, dflt]; done) | (simp [IntKind.bits, dflt]; omega) | (simp at *; omega))
      | (show (_ : Nat) ≤ _; first | omega | (unfold maxLen; omega) | (simp [IntKind.bits, dflt]; done) | (simp [IntKind.bits, dflt]; omega) | (simp at *; omega))
      | rfl)
  | false =>
    have e0 : topB xs ys r = false := by rw [topB, hs]; rfl
    have e1 : topM xs ys r = (0, 0, []) := by rw [topM, e0]; rfl
    rw [e0, e1]
    clear e0 e1 ht
    refine FnC_of (fn := Try.f12) Try.func12 rfl rfl rfl ?_
    repeat' (first
      | exact trivial
      | (refine inWO ?_; first
        | refine WO_runE (nw := true) rfl rfl ?_ ?_
        | refine WO_runG (nw := true) rfl rfl rfl rfl rfl ?_ ?_
        | refine WO_runU (nw := true) rfl rfl rfl rfl rfl ?_ ?_
        | refine WO_run1 (nw := true) rfl rfl ?_ ?_
        | refine WO_cons rfl ?_
        | refine WO_gT rfl rfl rfl rfl rfl ?_
        | (refine WO_split rfl rfl rfl rfl ?_ ?_ <;> intro hq <;> try (exfalso; (simp_all) <;> omega))
        | refine WO_nil ?_)
      | (refine inRW ?_; first
        | refine RW_runE (nw := true) rfl rfl (fun _ _ => rfl) rfl ?_ ?_
        | refine RW_runG (nw := true) rfl rfl rfl rfl rfl (fun _ _ => rfl) rfl ?_ ?_
        | refine RW_runU (nw := true) rfl rfl rfl rfl rfl (fun _ _ => rfl) rfl ?_ ?_
        | refine RW_op (us := ?_) (ub := ?_) (fp := ?_) rfl (fun s0 b0 => ?_) ?_ ?_
        | refine RW_opT (us := ?_) (ub := ?_) (fp := ?_) rfl rfl rfl rfl (fun s0 b0 => ?_) ?_ ?_
        | (refine RW_split rfl rfl rfl ?_ ?_ <;> intro hq <;> try (exfalso; (simp_all) <;> omega))
        | refine RW_nil ?_ (by first | decide +kernel | kernel_rfl))
      | (refine gate 1 rfl ?_; first
        | refine callD false (isstack_ok xs ys (by omega) (by omega)) rfl rfl rfl rfl (by (repeat' (first | exact trivial | refine And.intro ?_ ?_ | rfl)); done) rfl rfl ?_)
      | (refine gate 5 rfl ?_; first
        | refine litR rfl rfl rfl rfl rfl rfl rfl rfl ?_
        | refine litW rfl rfl rfl rfl rfl rfl ?_)
      | (refine gate 2 rfl ?_; first
        | refine apOS rfl rfl rfl rfl rfl rfl rfl rfl rfl rfl rfl ?_ ?_ ?_
        | refine apOL rfl rfl rfl rfl rfl rfl rfl rfl rfl rfl rfl rfl ?_ ?_ ?_
        | refine apNS rfl rfl rfl rfl rfl rfl rfl rfl rfl rfl rfl ?_ ?_ ?_
        | refine apNL rfl rfl rfl rfl rfl rfl rfl rfl rfl rfl rfl rfl ?_ ?_ ?_
        | refine apDO rfl rfl rfl rfl rfl rfl rfl rfl rfl rfl rfl rfl rfl rfl ?_ ?_ ?_
        | refine apDN rfl rfl rfl rfl rfl rfl rfl rfl rfl rfl rfl rfl rfl rfl ?_ ?_ ?_
        | refine op_apMk _ rfl rfl rfl rfl rfl rfl rfl rfl rfl rfl rfl rfl rfl ?_ ?_ ?_ ?_
        | refine apDS rfl rfl rfl rfl rfl rfl rfl rfl rfl rfl rfl ?_ ?_ ?_)
      | (refine gate 6 rfl ?_; refine mkS rfl rfl rfl rfl rfl rfl rfl rfl rfl rfl rfl rfl rfl ?_ ?_ ?_ ?_)
      | (refine gate 6 rfl ?_; refine op_makeD _ rfl rfl rfl rfl rfl rfl rfl rfl rfl rfl rfl rfl rfl ?_ ?_ ?_ ?_)
      | (refine gate 0 rfl ?_; refine op_storeD rfl rfl rfl rfl rfl rfl rfl rfl rfl rfl ?_)
      | (refine gate 3 rfl ?_; refine op_capN rfl rfl rfl rfl rfl ?_)
      | (refine gate 3 rfl ?_; refine op_copy rfl rfl rfl rfl rfl rfl rfl rfl rfl rfl rfl ?_)
      | (refine gate 8 rfl ?_; refine op_mkFn rfl rfl rfl rfl ?_)
      | (refine gate 7 rfl ?_; refine op_nil rfl rfl rfl rfl rfl rfl (fun b hb => ?_))
      | (refine inW ?_; first
        | refine W_seq ?_
        | refine W_region ?_
        | refine W_drawN (by decide +kernel) ?_
        | refine W_block ?_
        | refine W_skip ?_
        | refine W_exit ?_
        | refine W_ret ?_
        | refine W_condT rfl rfl ?_
        | refine W_condF rfl rfl ?_
        | (refine W_condB rfl ?_ ?_ <;> intro hq <;> try (exfalso; (simp_all) <;> omega)))
      | (refine inE ?_; first
        | refine end_d rfl rfl rfl rfl ?_ ?_
        | refine end_o rfl rfl rfl rfl ?_ ?_
        | refine end_of rfl rfl rfl ?_ ?_)
      | refine rsOne ?_
      | refine msPd rfl ?_
      | refine msPn ?_
      | refine msPo rfl ?_
      | refine And.intro ?_ ?_
      | (show List.length _ ≠ 1; simp)
      | (show (_ : Int) ≤ _; first | omega | (simp [IntKind.bits, dflt]; done) | (simp [IntKind.bits, dflt]; omega) | (simp at *; omega))
      | (show (_ : Int) < _; first | omega | (simp [IntKind.bits, dflt]; done) | (simp [IntKind.bits, dflt]; omega) | (simp at *; omega))
      | (show (_ : Nat) ≤ _; first | omega | (unfold maxLen; omega) | (simp [IntKind.bits, dflt]; done) | (simp [IntKind.bits, dflt]; omega) | (simp at *; omega))
      | rfl)
set_option maxHeartbeats 4000000 in
set_option maxRecDepth 20000 in
theorem iturn_ok0 (xs ys : List Ed) (e : Ed) (hx : xs.length ≤ 6) (hy : ys.length ≤ 6) (hw : ∀ e ∈ xs, e.2.2.length ≤ 16777216) (hv : ∀ e ∈ ys, e.2.2.length ≤ 16777216) (he : e.2.2.length ≤ 16777216) (h5 : xs.length ≠ 0) : FnC Try.prog 49 [aSt xs ys, aB false, aEd e] [aSt0, aX, aEd0] (.ag [oEs (xs.take (xs.length - 1)), oEs (topL ys e)]) := by
  refine FnC_of (fn := Try.f49) Try.func49 rfl rfl rfl ?_
  repeat' (first
    | exact trivial
    | (refine inWO ?_; first
      | refine WO_runE (nw := true) rfl rfl ?_ ?_
      | refine WO_runG (nw := true) rfl rfl rfl rfl rfl ?_ ?_
      | refine WO_runU (nw := true) rfl rfl rfl rfl rfl ?_ ?_
      | refine WO_run1 (nw := true) rfl rfl ?_ ?_
      | refine WO_cons rfl ?_
      | refine WO_gT rfl rfl rfl rfl rfl ?_
      | (refine WO_split rfl rfl rfl rfl ?_ ?_ <;> intro hq <;> try (exfalso; (simp_all) <;> omega))
      | refine WO_nil ?_)
    | (refine inRW ?_; first
      | refine RW_runE (nw := true) rfl rfl (fun _ _ => rfl) rfl ?_ ?_
      | refine RW_runG (nw := true) rfl rfl rfl rfl rfl (fun _ _ => rfl) rfl ?_ ?_
      | refine RW_runU (nw := true) rfl rfl rfl rfl rfl (fun _ _ => rfl) rfl ?_ ?_
      | refine RW_op (us := ?_) (ub := ?_) (fp := ?_) rfl (fun s0 b0 => ?_) ?_ ?_
      | refine RW_opT (us := ?_) (ub := ?_) (fp := ?_) rfl rfl rfl rfl (fun s0 b0 => ?_) ?_ ?_
      | (refine RW_split rfl rfl rfl ?_ ?_ <;> intro hq <;> try (exfalso; (simp_all) <;> omega))
      | refine RW_nil ?_ (by first | decide +kernel | kernel_rfl))
    | (refine gate 1 rfl ?_; first
      | refine callD false (edits_ok _ ?_ ?_) rfl rfl rfl rfl (by (repeat' (first | exact trivial | refine And.intro ?_ ?_ | rfl)); done) rfl rfl ?_
      | refine callD false (istk_ok _ e ?_ ?_ he) rfl rfl rfl rfl (by (repeat' (first | exact trivial | refine And.intro ?_ ?_ | rfl)); done) rfl rfl ?_)
    | (refine gate 5 rfl ?_; first
      | refine litR rfl rfl rfl rfl rfl rfl rfl rfl ?_
      | refine litW rfl rfl rfl rfl rfl rfl ?_)
    | (refine gate 2 rfl ?_; first
      | refine apOS rfl rfl rfl rfl rfl rfl rfl rfl rfl rfl rfl ?_ ?_ ?_
      | refine apOL rfl rfl rfl rfl rfl rfl rfl rfl rfl rfl rfl rfl ?_ ?_ ?_
      | refine apNS rfl rfl rfl rfl rfl rfl rfl rfl rfl rfl rfl ?_ ?_ ?_
      | refine apNL rfl rfl rfl rfl rfl rfl rfl rfl rfl rfl rfl rfl ?_ ?_ ?_
      | refine apDO rfl rfl rfl rfl rfl rfl rfl rfl rfl rfl rfl rfl rfl rfl ?_ ?_ ?_
      | refine apDN rfl rfl rfl rfl rfl rfl rfl rfl rfl rfl rfl rfl rfl rfl ?_ ?_ ?_
      | refine op_apMk _ rfl rfl rfl rfl rfl rfl rfl rfl rfl rfl rfl rfl rfl ?_ ?_ ?_ ?_
      | refine apDS rfl rfl rfl rfl rfl rfl rfl rfl rfl rfl rfl ?_ ?_ ?_)
    | (refine gate 6 rfl ?_; refine mkS rfl rfl rfl rfl rfl rfl rfl rfl rfl rfl rfl rfl rfl ?_ ?_ ?_ ?_)
    | (refine gate 6 rfl ?_; refine op_makeD _ rfl rfl rfl rfl rfl rfl rfl rfl rfl rfl rfl rfl rfl ?_ ?_ ?_ ?_)
    | (refine gate 0 rfl ?_; refine op_storeD rfl rfl rfl rfl rfl rfl rfl rfl rfl rfl ?_)
    | (refine gate 3 rfl ?_; refine op_capN rfl rfl rfl rfl rfl ?_)
    | (refine gate 3 rfl ?_; refine op_copy rfl rfl rfl rfl rfl rfl rfl rfl rfl rfl rfl ?_)
    | (refine gate 8 rfl ?_; refine op_mkFn rfl rfl rfl rfl ?_)
    | (refine gate 7 rfl ?_; refine op_nil rfl rfl rfl rfl rfl rfl (fun b hb => ?_))
    | (refine inW ?_; first
      | refine W_seq ?_
      | refine W_region ?_
      | refine W_drawN (by decide +kernel) ?_
      | refine W_block ?_
      | refine W_skip ?_
      | refine W_exit ?_
      | refine W_ret ?_
      | refine W_condT rfl rfl ?_
      | refine W_condF rfl rfl ?_
      | (refine W_condB rfl ?_ ?_ <;> intro hq <;> try (exfalso; (simp_all) <;> omega)))
    | (refine inE ?_; first
      | refine end_d rfl rfl rfl rfl ?_ ?_
      | refine end_o rfl rfl rfl rfl ?_ ?_
      | refine end_of rfl rfl rfl ?_ ?_)
    | refine rsOne ?_
    | refine msPd rfl ?_
    | refine msPn ?_
    | refine msPo rfl ?_
    | refine And.intro ?_ ?_
    | (show List.length _ ≠ 1; simp)
    | (show (_ : Int) ≤ _; first | omega | (simp [IntKind.bits, dflt]; done) | (simp [IntKind.bits, dflt]; omega) | (simp at *; omega))
    | (show (_ : Int) < _; first | omega | (simp [IntKind.bits, dflt]; done) | (simp [IntKind.bits, dflt]; omega) | (simp at *; omega))
    | (show (_ : Nat) ≤ _; first | omega | (unfold maxLen; omega) | (simp [IntKind.bits, dflt]; done) | (simp [IntKind.bits, dflt]; omega) | (simp at *; omega))
    | rfl)
  · show (xs.take ((xs.length : Int) - 1).toNat).length ≤ 100
    simp only [List.length_take]; omega
  · exact fun z hz => hw z (List.mem_of_mem_take (show z ∈ xs.take ((xs.length : Int) - 1).toNat from hz))
  · exact hv
  · show xs.take ((xs.length : Int) - 1).toNat = _
    rw [show ((xs.length : Int) - 1).toNat = xs.length - 1 by omega]
set_option maxHeartbeats 4000000 in
set_option maxRecDepth 20000 in
theorem iturn_ok1 (xs ys : List Ed) (e : Ed) (hx : xs.length ≤ 6) (hy : ys.length ≤ 6) (hw : ∀ e ∈ xs, e.2.2.length ≤ 16777216) (hv : ∀ e ∈ ys, e.2.2.length ≤ 16777216) (he : e.2.2.length ≤ 16777216) (h5 : ys.length ≠ 0) : FnC Try.prog 49 [aSt xs ys, aB true, aEd e] [aSt0, aX, aEd0] (.ag [oEs (topL xs e), oEs (ys.take (ys.length - 1))]) := by
  refine FnC_of (fn := Try.f49) Try.func49 rfl rfl rfl ?_
  repeat' (first
    | exact trivial
    | (refine inWO ?_; first
      | refine WO_runE (nw := true) rfl rfl ?_ ?_
      | refine WO_runG (nw := true) rfl rfl rfl rfl rfl ?_ ?_
      | refine WO_runU (nw := true) rfl rfl rfl rfl rfl ?_ ?_
      | refine WO_run1 (nw := true) rfl rfl ?_ ?_
      | refine WO_cons rfl ?_
      | refine WO_gT rfl rfl rfl rfl rfl ?_
      | (refine WO_split rfl rfl rfl rfl ?_ ?_ <;> intro hq <;> try (exfalso; (simp_all) <;> omega))
      | refine WO_nil ?_)
    | (refine inRW ?_; first
      | refine RW_runE (nw := true) rfl rfl (fun _ _ => rfl) rfl ?_ ?_
      | refine RW_runG (nw := true) rfl rfl rfl rfl rfl (fun _ _ => rfl) rfl ?_ ?_
      | refine RW_runU (nw := true) rfl rfl rfl rfl rfl (fun _ _ => rfl) rfl ?_ ?_
      | refine RW_op (us := ?_) (ub := ?_) (fp := ?_) rfl (fun s0 b0 => ?_) ?_ ?_
      | refine RW_opT (us := ?_) (ub := ?_) (fp := ?_) rfl rfl rfl rfl (fun s0 b0 => ?_) ?_ ?_
      | (refine RW_split rfl rfl rfl ?_ ?_ <;> intro hq <;> try (exfalso; (simp_all) <;> omega))
      | refine RW_nil ?_ (by first | decide +kernel | kernel_rfl))
    | (refine gate 1 rfl ?_; first
      | refine callD false (edits_ok _ ?_ ?_) rfl rfl rfl rfl (by (repeat' (first | exact trivial | refine And.intro ?_ ?_ | rfl)); done) rfl rfl ?_
      | refine callD false (istk_ok _ e ?_ ?_ he) rfl rfl rfl rfl (by (repeat' (first | exact trivial | refine And.intro ?_ ?_ | rfl)); done) rfl rfl ?_)
    | (refine gate 5 rfl ?_; first
      | refine litR rfl rfl rfl rfl rfl rfl rfl rfl ?_
      | refine litW rfl rfl rfl rfl rfl rfl ?_)
    | (refine gate 2 rfl ?_; first
      | refine apOS rfl rfl rfl rfl rfl rfl rfl rfl rfl rfl rfl ?_ ?_ ?_
      | refine apOL rfl rfl rfl rfl rfl rfl rfl rfl rfl rfl rfl rfl ?_ ?_ ?_
      | refine apNS rfl rfl rfl rfl rfl rfl rfl rfl rfl rfl rfl ?_ ?_ ?_
      | refine apNL rfl rfl rfl rfl rfl rfl rfl rfl rfl rfl rfl rfl ?_ ?_ ?_
      | refine apDO rfl rfl rfl rfl rfl rfl rfl rfl rfl rfl rfl rfl rfl rfl ?_ ?_ ?_
      | refine apDN rfl rfl rfl rfl rfl rfl rfl rfl rfl rfl rfl rfl rfl rfl ?_ ?_ ?_
      | refine op_apMk _ rfl rfl rfl rfl rfl rfl rfl rfl rfl rfl rfl rfl rfl ?_ ?_ ?_ ?_
      | refine apDS rfl rfl rfl rfl rfl rfl rfl rfl rfl rfl rfl ?_ ?_ ?_)
    | (refine gate 6 rfl ?_; refine mkS rfl rfl rfl rfl rfl rfl rfl rfl rfl rfl rfl rfl rfl ?_ ?_ ?_ ?_)
    | (refine gate 6 rfl ?_; refine op_makeD _ rfl rfl rfl rfl rfl rfl rfl rfl rfl rfl rfl rfl rfl ?_ ?_ ?_ ?_)
    | (refine gate 0 rfl ?_; refine op_storeD rfl rfl rfl rfl rfl rfl rfl rfl rfl rfl ?_)
    | (refine gate 3 rfl ?_; refine op_capN rfl rfl rfl rfl rfl ?_)
    | (refine gate 3 rfl ?_; refine op_copy rfl rfl rfl rfl rfl rfl rfl rfl rfl rfl rfl ?_)
    | (refine gate 8 rfl ?_; refine op_mkFn rfl rfl rfl rfl ?_)
    | (refine gate 7 rfl ?_; refine op_nil rfl rfl rfl rfl rfl rfl (fun b hb => ?_))
    | (refine inW ?_; first
      | refine W_seq ?_
      | refine W_region ?_
      | refine W_drawN (by decide +kernel) ?_
      | refine W_block ?_
      | refine W_skip ?_
      | refine W_exit ?_
      | refine W_ret ?_
      | refine W_condT rfl rfl ?_
      | refine W_condF rfl rfl ?_
      | (refine W_condB rfl ?_ ?_ <;> intro hq <;> try (exfalso; (simp_all) <;> omega)))
    | (refine inE ?_; first
      | refine end_d rfl rfl rfl rfl ?_ ?_
      | refine end_o rfl rfl rfl rfl ?_ ?_
      | refine end_of rfl rfl rfl ?_ ?_)
    | refine rsOne ?_
    | refine msPd rfl ?_
    | refine msPn ?_
    | refine msPo rfl ?_
    | refine And.intro ?_ ?_
    | (show List.length _ ≠ 1; simp)
    | (show (_ : Int) ≤ _; first | omega | (simp [IntKind.bits, dflt]; done) | (simp [IntKind.bits, dflt]; omega) | (simp at *; omega))
    | (show (_ : Int) < _; first | omega | (simp [IntKind.bits, dflt]; done) | (simp [IntKind.bits, dflt]; omega) | (simp at *; omega))
    | (show (_ : Nat) ≤ _; first | omega | (unfold maxLen; omega) | (simp [IntKind.bits, dflt]; done) | (simp [IntKind.bits, dflt]; omega) | (simp at *; omega))
    | rfl)
  · exact hw
  · show (ys.take ((ys.length : Int) - 1).toNat).length ≤ 100
    simp only [List.length_take]; omega
  · exact fun z hz => hv z (List.mem_of_mem_take (show z ∈ ys.take ((ys.length : Int) - 1).toNat from hz))
  · show ys.take ((ys.length : Int) - 1).toNat = _
    rw [show ((ys.length : Int) - 1).toNat = ys.length - 1 by omega]
set_option maxHeartbeats 4000000 in
set_option maxRecDepth 20000 in
theorem iturn_no (xs ys : List Ed) (r : Bool) (e : Ed) (hx : xs.length ≤ 1000) (hy : ys.length ≤ 1000) (hw : ∀ e ∈ xs, e.2.2.length ≤ 16777216) (hv : ∀ e ∈ ys, e.2.2.length ≤ 16777216) (he : e.2.2.length ≤ 16777216) (h : trnB xs ys r e = false) : FnC Try.prog 14 [aSt xs ys, aB r, aEd e] [aSt0, aX, aEd0] (.tu [(true, [oEs [], oEs []]), (false, [sB false])]) := by
  simp only [trnB, topB] at h
  have ht := itop_ok xs ys r hx hy hw hv
  refine FnC_of (fn := Try.f14) Try.func14 rfl rfl rfl ?_
  repeat' (first
    | exact trivial
    | (refine inWO ?_; first
      | refine WO_runE (nw := true) rfl rfl ?_ ?_
      | refine WO_runG (nw := true) rfl rfl rfl rfl rfl ?_ ?_
      | refine WO_runU (nw := true) rfl rfl rfl rfl rfl ?_ ?_
      | refine WO_run1 (nw := true) rfl rfl ?_ ?_
      | refine WO_cons rfl ?_
      | refine WO_gT rfl rfl rfl rfl rfl ?_
      | (refine WO_split rfl rfl rfl rfl ?_ ?_ <;> intro hq <;> try (exfalso; (simp_all) <;> omega))
      | refine WO_nil ?_)
    | (refine inRW ?_; first
      | refine RW_runE (nw := true) rfl rfl (fun _ _ => rfl) rfl ?_ ?_
      | refine RW_runG (nw := true) rfl rfl rfl rfl rfl (fun _ _ => rfl) rfl ?_ ?_
      | refine RW_runU (nw := true) rfl rfl rfl rfl rfl (fun _ _ => rfl) rfl ?_ ?_
      | refine RW_op (us := ?_) (ub := ?_) (fp := ?_) rfl (fun s0 b0 => ?_) ?_ ?_
      | refine RW_opT (us := ?_) (ub := ?_) (fp := ?_) rfl rfl rfl rfl (fun s0 b0 => ?_) ?_ ?_
      | (refine RW_split rfl rfl rfl ?_ ?_ <;> intro hq <;> try (exfalso; (simp_all) <;> omega))
      | refine RW_nil ?_ (by first | decide +kernel | kernel_rfl))
    | (refine gate 1 rfl ?_; first
      | refine callD false (isstack_ok xs ys (by omega) (by omega)) rfl rfl rfl rfl (by (repeat' (first | exact trivial | refine And.intro ?_ ?_ | rfl)); done) rfl rfl ?_
      | refine callD false (issmall_ok e) rfl rfl rfl rfl (by (repeat' (first | exact trivial | refine And.intro ?_ ?_ | rfl)); done) rfl rfl ?_
      | refine callD false (ht) rfl rfl rfl rfl (by (repeat' (first | exact trivial | refine And.intro ?_ ?_ | rfl)); done) rfl rfl ?_)
    | (refine gate 5 rfl ?_; first
      | refine litR rfl rfl rfl rfl rfl rfl rfl rfl ?_
      | refine litW rfl rfl rfl rfl rfl rfl ?_)
    | (refine gate 2 rfl ?_; first
      | refine apOS rfl rfl rfl rfl rfl rfl rfl rfl rfl rfl rfl ?_ ?_ ?_
      | refine apOL rfl rfl rfl rfl rfl rfl rfl rfl rfl rfl rfl rfl ?_ ?_ ?_
      | refine apNS rfl rfl rfl rfl rfl rfl rfl rfl rfl rfl rfl ?_ ?_ ?_
      | refine apNL rfl rfl rfl rfl rfl rfl rfl rfl rfl rfl rfl rfl ?_ ?_ ?_
      | refine apDO rfl rfl rfl rfl rfl rfl rfl rfl rfl rfl rfl rfl rfl rfl ?_ ?_ ?_
      | refine apDN rfl rfl rfl rfl rfl rfl rfl rfl rfl rfl rfl rfl rfl rfl ?_ ?_ ?_
      | refine op_apMk _ rfl rfl rfl rfl rfl rfl rfl rfl rfl rfl rfl rfl rfl ?_ ?_ ?_ ?_
      | refine apDS rfl rfl rfl rfl rfl rfl rfl rfl rfl rfl rfl ?_ ?_ ?_)
    | (refine gate 6 rfl ?_; refine mkS rfl rfl rfl rfl rfl rfl rfl rfl rfl rfl rfl rfl rfl ?_ ?_ ?_ ?_)
    | (refine gate 6 rfl ?_; refine op_makeD _ rfl rfl rfl rfl rfl rfl rfl rfl rfl rfl rfl rfl rfl ?_ ?_ ?_ ?_)
    | (refine gate 0 rfl ?_; refine op_storeD rfl rfl rfl rfl rfl rfl rfl rfl rfl rfl ?_)
    | (refine gate 3 rfl ?_; refine op_capN rfl rfl rfl rfl rfl ?_)
    | (refine gate 3 rfl ?_; refine op_copy rfl rfl rfl rfl rfl rfl rfl rfl rfl rfl rfl ?_)
    | (refine gate 8 rfl ?_; refine op_mkFn rfl rfl rfl rfl ?_)
    | (refine gate 7 rfl ?_; refine op_nil rfl rfl rfl rfl rfl rfl (fun b hb => ?_))
    | (refine inW ?_; first
      | refine W_seq ?_
      | refine W_region ?_
      | refine W_drawN (by decide +kernel) ?_
      | refine W_block ?_
      | refine W_skip ?_
      | refine W_exit ?_
      | refine W_ret ?_
      | refine W_condT rfl rfl ?_
      | refine W_condF rfl rfl ?_
      | (refine W_condB rfl ?_ ?_ <;> intro hq <;> try (exfalso; (simp_all) <;> omega)))
    | (refine inE ?_; first
      | refine end_d rfl rfl rfl rfl ?_ ?_
      | refine end_o rfl rfl rfl rfl ?_ ?_
      | refine end_of rfl rfl rfl ?_ ?_)
    | refine rsOne ?_
    | refine msPd rfl ?_
    | refine msPn ?_
    | refine msPo rfl ?_
    | refine And.intro ?_ ?_
    | (show List.length _ ≠ 1; simp)
    | (show (_ : Int) ≤ _; first | omega | (simp [IntKind.bits, dflt]; done) | (simp [IntKind.bits, dflt]; omega) | (simp at *; omega))
    | (show (_ : Int) < _; first | omega | (simp [IntKind.bits, dflt]; done) | (simp [IntKind.bits, dflt]; omega) | (simp at *; omega))
    | (show (_ : Nat) ≤ _; first | omega | (unfold maxLen; omega) | (simp [IntKind.bits, dflt]; done) | (simp [IntKind.bits, dflt]; omega) | (simp at *; omega))
    | rfl)
  all_goals (exfalso; simp_all)
set_option maxHeartbeats 4000000 in
set_option maxRecDepth 20000 in
theorem iturn_yes (xs ys : List Ed) (r : Bool) (e : Ed) (hx : xs.length ≤ 1000) (hy : ys.length ≤ 1000) (hw : ∀ e ∈ xs, e.2.2.length ≤ 16777216) (hv : ∀ e ∈ ys, e.2.2.length ≤ 16777216) (he : e.2.2.length ≤ 16777216) (h : trnB xs ys r e = true) : FnC Try.prog 14 [aSt xs ys, aB r, aEd e] [aSt0, aX, aEd0] (.tu [(true, [oEs (trnM xs ys r e).1, oEs (trnM xs ys r e).2]), (false, [sB true])]) := by
  obtain ⟨h1, h2, h3, h4, h5⟩ := trnB_ok h
  have ht := itop_ok xs ys r hx hy hw hv
  have h1' := h1
  simp only [topB, Bool.and_eq_true, Bool.not_eq_true', decide_eq_false_iff_not] at h1'
  obtain ⟨⟨h6, h7⟩, _⟩ := h1'
  have hu : FnC Try.prog 49 [aSt xs ys, aB r, aEd e] [aSt0, aX, aEd0] (.ag [oEs (trnM xs ys r e).1, oEs (trnM xs ys r e).2]) := by
    cases r with
    | false =>
      rw [show trnM xs ys false e = (xs.take (xs.length - 1), topL ys e) by rw [trnM, if_pos h]; rfl]
      exact iturn_ok0 xs ys e h3 h4 hw hv he h5
    | true =>
      rw [show trnM xs ys true e = (topL xs e, ys.take (ys.length - 1)) by rw [trnM, if_pos h]; rfl]
      exact iturn_ok1 xs ys e h3 h4 hw hv he h5
  have hm : (trnM xs ys r e).1.length ≤ 100 ∧ (trnM xs ys r e).2.length ≤ 100 ∧ (∀ z ∈ (trnM xs ys r e).1, z.2.2.length ≤ 16777216) ∧ (∀ z ∈ (trnM xs ys r e).2, z.2.2.length ≤ 16777216) := by
    have tw : ∀ (zs : List Ed), (∀ e ∈ zs, e.2.2.length ≤ 16777216) → ∀ z ∈ topL zs e, z.2.2.length ≤ 16777216 := fun zs hz z h => (topL_mem h).elim (hz z) fun h => by rw [h]; exact he
    rw [trnM, if_pos h]
    have tl : ∀ zs : List Ed, (topL zs e).length ≤ 100 := fun zs => Nat.le_trans topL_len (by decide)
    cases r with
    | false => exact ⟨by simp only [cond_false, List.length_take]; omega, tl _, fun z hz => hw z (List.mem_of_mem_take hz), tw _ hv⟩
    | true => exact ⟨tl _, by simp only [cond_true, List.length_take]; omega, tw _ hw, fun z hz => hv z (List.mem_of_mem_take hz)⟩
  obtain ⟨m1, m2, m3, m4⟩ := hm
  have h8 : (!decide ((bif r then ys else xs).length = 0)) = true := by simp [h5]
  rw [h8] at ht
  clear h h5 h1
  generalize trnM xs ys r e = tm at *
  refine FnC_of (fn := Try.f14) Try.func14 rfl rfl rfl ?_
  repeat' (first
    | exact trivial
    | (refine inWO ?_; first
      | refine WO_runE (nw := true) rfl rfl ?_ ?_
      | refine WO_runG (nw := true) rfl rfl rfl rfl rfl ?_ ?_
      | refine WO_runU (nw := true) rfl rfl rfl rfl rfl ?_ ?_
      | refine WO_run1 (nw := true) rfl rfl ?_ ?_
      | refine WO_cons rfl ?_
      | refine WO_gT rfl rfl rfl rfl rfl ?_
      | (refine WO_split rfl rfl rfl rfl ?_ ?_ <;> intro hq <;> try (exfalso; (simp_all) <;> omega))
      | refine WO_nil ?_)
    | (refine inRW ?_; first
      | refine RW_runE (nw := true) rfl rfl (fun _ _ => rfl) rfl ?_ ?_
      | refine RW_runG (nw := true) rfl rfl rfl rfl rfl (fun _ _ => rfl) rfl ?_ ?_
      | refine RW_runU (nw := true) rfl rfl rfl rfl rfl (fun _ _ => rfl) rfl ?_ ?_
      | refine RW_op (us := ?_) (ub := ?_) (fp := ?_) rfl (fun s0 b0 => ?_) ?_ ?_
      | refine RW_opT (us := ?_) (ub := ?_) (fp := ?_) rfl rfl rfl rfl (fun s0 b0 => ?_) ?_ ?_
      | (refine RW_split rfl rfl rfl ?_ ?_ <;> intro hq <;> try (exfalso; (simp_all) <;> omega))
      | refine RW_nil ?_ (by first | decide +kernel | kernel_rfl))
    | (refine gate 1 rfl ?_; first
      | refine callD false (isstack_ok xs ys (by omega) (by omega)) rfl rfl rfl rfl (by (repeat' (first | exact trivial | refine And.intro ?_ ?_ | rfl)); done) rfl rfl ?_
      | refine callD false (issmall_ok e) rfl rfl rfl rfl (by (repeat' (first | exact trivial | refine And.intro ?_ ?_ | rfl)); done) rfl rfl ?_
      | refine callD false (ht) rfl rfl rfl rfl (by (repeat' (first | exact trivial | refine And.intro ?_ ?_ | rfl)); done) rfl rfl ?_
      | refine callD false (hu) rfl rfl rfl rfl (by (repeat' (first | exact trivial | refine And.intro ?_ ?_ | rfl)); done) rfl rfl ?_
      | refine callD true (icopied_ok tm.1 tm.2 m1 m2 m3 m4) rfl rfl rfl rfl (by (repeat' (first | exact trivial | refine And.intro ?_ ?_ | rfl)); done) rfl rfl ?_)
    | (refine gate 5 rfl ?_; first
      | refine litR rfl rfl rfl rfl rfl rfl rfl rfl ?_
      | refine litW rfl rfl rfl rfl rfl rfl ?_)
    | (refine gate 2 rfl ?_; first
      | refine apOS rfl rfl rfl rfl rfl rfl rfl rfl rfl rfl rfl ?_ ?_ ?_
      | refine apOL rfl rfl rfl rfl rfl rfl rfl rfl rfl rfl rfl rfl ?_ ?_ ?_
      | refine apNS rfl rfl rfl rfl rfl rfl rfl rfl rfl rfl rfl ?_ ?_ ?_
      | refine apNL rfl rfl rfl rfl rfl rfl rfl rfl rfl rfl rfl rfl ?_ ?_ ?_
      | refine apDO rfl rfl rfl rfl rfl rfl rfl rfl rfl rfl rfl rfl rfl rfl ?_ ?_ ?_
      | refine apDN rfl rfl rfl rfl rfl rfl rfl rfl rfl rfl rfl rfl rfl rfl ?_ ?_ ?_
      | refine op_apMk _ rfl rfl rfl rfl rfl rfl rfl rfl rfl rfl rfl rfl rfl ?_ ?_ ?_ ?_
      | refine apDS rfl rfl rfl rfl rfl rfl rfl rfl rfl rfl rfl ?_ ?_ ?_)
    | (refine gate 6 rfl ?_; refine mkS rfl rfl rfl rfl rfl rfl rfl rfl rfl rfl rfl rfl rfl ?_ ?_ ?_ ?_)
    | (refine gate 6 rfl ?_; refine op_makeD _ rfl rfl rfl rfl rfl rfl rfl rfl rfl rfl rfl rfl rfl ?_ ?_ ?_ ?_)
    | (refine gate 0 rfl ?_; refine op_storeD rfl rfl rfl rfl rfl rfl rfl rfl rfl rfl ?_)
    | (refine gate 3 rfl ?_; refine op_capN rfl rfl rfl rfl rfl ?_)
    | (refine gate 3 rfl ?_; refine op_copy rfl rfl rfl rfl rfl rfl rfl rfl rfl rfl rfl ?_)
    | (refine gate 8 rfl ?_; refine op_mkFn rfl rfl rfl rfl ?_)
    | (refine gate 7 rfl ?_; refine op_nil rfl rfl rfl rfl rfl rfl (fun b hb => ?_))
    | (refine inW ?_; first
      | refine W_seq ?_
      | refine W_region ?_
      | refine W_drawN (by decide +kernel) ?_
      | refine W_block ?_
      | refine W_skip ?_
      | refine W_exit ?_
      | refine W_ret ?_
      | refine W_condT rfl rfl ?_
      | refine W_condF rfl rfl ?_
      | (refine W_condB rfl ?_ ?_ <;> intro hq <;> try (exfalso; (simp_all) <;> omega)))
    | (refine inE ?_; first
      | refine end_d rfl rfl rfl rfl ?_ ?_
      | refine end_o rfl rfl rfl rfl ?_ ?_
      | refine end_of rfl rfl rfl ?_ ?_)
    | refine rsOne ?_
    | refine msPd rfl ?_
    | refine msPn ?_
    | refine msPo rfl ?_
    | refine And.intro ?_ ?_
    | (show List.length _ ≠ 1; simp)
    | (show (_ : Int) ≤ _; first | omega | (simp [IntKind.bits, dflt]; done) | (simp [IntKind.bits, dflt]; omega) | (simp at *; omega))
    | (show (_ : Int) < _; first | omega | (simp [IntKind.bits, dflt]; done) | (simp [IntKind.bits, dflt]; omega) | (simp at *; omega))
    | (show (_ : Nat) ≤ _; first | omega | (unfold maxLen; omega) | (simp [IntKind.bits, dflt]; done) | (simp [IntKind.bits, dflt]; omega) | (simp at *; omega))
    | rfl)
end Go.LX
