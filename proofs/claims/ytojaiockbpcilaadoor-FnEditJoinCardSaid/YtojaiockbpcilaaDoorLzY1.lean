/- A part of the proof of the statement in the row text. -/
import Derived.Test.YtojaiockbpcilaaDoorLzE7
import Derived.Test.YtojaiockbpcilaaDoorLzF0
set_option linter.unusedVariables false
set_option linter.unusedSimpArgs false
namespace Go.LX
open Go.Proofs
attribute [local irreducible] W WO OpW RW EndQ
set_option maxHeartbeats 4000000 in
set_option maxRecDepth 20000 in
theorem drawej_ex (code : List UInt8) (hl : code.length ≤ 16777216) : ∃ r : Ed × Ed, r.1.2.2.length ≤ 1001 ∧ r.2.2.2.length ≤ 1001 ∧ FnC Tryd.prog 11 [aBy code] [aX] (.tu [(true, [sI r.1.1, sI r.1.2.1, sBy r.1.2.2]), (true, [sI r.2.1, sI r.2.2.1, oBy r.2.2.2])]) := by
  have ho := open_ok code hl
  obtain ⟨p1, b1, n1, h1⟩ := text_ex code 0 _ 40 hl (open_b (n := code.length)) (by decide) (by decide)
  have c1 := n1.next (Int.le_refl _) (by decide)
  have e1 := n1.a1
  obtain ⟨p2, b2, n2, h2⟩ := edit_ex code p1.2.1 p1.2.2 p1.1 hl c1 (by omega) (by omega)
  have n12 := n1.trans n2
  have c2 := n12.next (Int.le_refl _) (by decide)
  have e2 := n12.a1
  obtain ⟨p3, b3, n3, h3⟩ := edit_ex code p2.2.1 p2.2.2 p2.1.2.2 hl c2 (by omega) (by omega)
  have n13 := n12.trans n3
  have c3 := n13.next (Int.le_refl _) (by decide)
  have e3 := n13.a1
  obtain ⟨p4, b4, n4, h4⟩ := pick_ex code p3.2.1 p3.2.2 9 hl c3
  have n14 := n13.trans n4
  have c4 := n14.next (Int.le_refl _) (by decide)
  have e4 := n14.a1
  have b4' := b4.2.1 (by decide)
  by_cases q0 : p4.1 = 0
  · obtain ⟨p5, b5, n5, h5⟩ := edit_ex code p4.2.1 p4.2.2 p1.1 hl c4 (by omega) (by omega)
    refine ⟨(p2.1, p5.1), by simp only; omega, by simp only; omega, ?_⟩
    refine FnC_of (fn := Tryd.f11) Tryd.func11 rfl rfl rfl ?_
    repeat' (first
      | exact trivial
      | (refine inWO ?_; first
        | refine WO_runE (nw := true) rfl rfl ?_ ?_
        | refine WO_runG (nw := true) rfl rfl rfl rfl rfl ?_ ?_
        | refine WO_runU (nw := true) rfl rfl rfl rfl rfl ?_ ?_
        | refine WO_run1 (nw := true) rfl rfl ?_ ?_
        | refine WO_cons rfl ?_
        | refine WO_gT rfl rfl rfl rfl rfl ?_
        | (refine WO_split rfl rfl rfl rfl ?_ ?_ <;> intro hq <;> try (exfalso; (simp_all) <;> omega))
        | refine WO_nil ?_)
      | (refine inRW ?_; first
        | refine RW_runE (nw := true) rfl rfl (fun _ _ => rfl) rfl ?_ ?_
        | refine RW_runG (nw := true) rfl rfl rfl rfl rfl (fun _ _ => rfl) rfl ?_ ?_
        | refine RW_runU (nw := true) rfl rfl rfl rfl rfl (fun _ _ => rfl) rfl ?_ ?_
        | refine RW_op (us := ?_) (ub := ?_) (fp := ?_) rfl (fun s0 b0 => ?_) ?_ ?_
        | refine RW_opT (us := ?_) (ub := ?_) (fp := ?_) rfl rfl rfl rfl (fun s0 b0 => ?_) ?_ ?_
        | (refine RW_split rfl rfl rfl ?_ ?_ <;> intro hq <;> try (exfalso; (simp_all) <;> omega))
        | refine RW_nil ?_ (by first | decide +kernel | kernel_rfl))
      | (refine gate 1 rfl ?_; first
        | refine op_callBx (ho) rfl rfl rfl rfl (by (repeat' (first | exact trivial | refine And.intro ?_ ?_ | rfl)); done) rfl ?_
        | refine callB (h1) rfl rfl rfl rfl rfl rfl rfl rfl rfl ⟨rfl, trivial⟩ ⟨rfl, rfl, rfl, trivial⟩ rfl rfl rfl rfl rfl rfl rfl rfl ?_)
      | (refine gate 5 rfl ?_; first
        | refine litR rfl rfl rfl rfl rfl rfl rfl rfl ?_
        | refine litW rfl rfl rfl rfl rfl rfl ?_)
      | (refine gate 6 rfl ?_; refine mkS rfl rfl rfl rfl rfl rfl rfl rfl rfl rfl rfl rfl rfl ?_ ?_ ?_ ?_)
      | (refine gate 6 rfl ?_; refine op_makeD _ rfl rfl rfl rfl rfl rfl rfl rfl rfl rfl rfl rfl rfl ?_ ?_ ?_ ?_)
      | (refine gate 0 rfl ?_; refine op_storeD rfl rfl rfl rfl rfl rfl rfl rfl rfl rfl ?_)
      | (refine gate 8 rfl ?_; refine op_mkFn rfl rfl rfl rfl ?_)
      | (refine gate 7 rfl ?_; refine op_nil rfl rfl rfl rfl rfl rfl (fun b hb => ?_))
      | (refine inW ?_; first
        | refine W_seq ?_
        | refine W_region ?_
        | refine W_block ?_
        | refine W_skip ?_
        | refine W_exit ?_
        | refine W_ret ?_
        | refine W_condT rfl rfl ?_
        | refine W_condF rfl rfl ?_
        | (refine W_condB rfl ?_ ?_ <;> intro hq <;> try (exfalso; (simp_all) <;> omega)))
      | (refine inE ?_; first
        | refine end_d rfl rfl rfl rfl ?_ ?_
        | refine end_o rfl rfl rfl rfl ?_ ?_
        | refine end_of rfl rfl rfl ?_ ?_)
      | refine rsOne ?_
      | refine msPd rfl ?_
      | refine msPn ?_
      | refine msPo rfl ?_
      | refine And.intro ?_ ?_
      | (show List.length _ ≠ 1; simp)
      | (show (_ : Int) ≤ _; first | omega | (simp [IntKind.bits, dflt] <;> omega) | (simp at *; omega))
      | (show (_ : Int) < _; first | omega | (simp [IntKind.bits, dflt] <;> omega) | (simp at *; omega))
      | (show (_ : Nat) ≤ _; first | omega | (unfold maxLen; omega) | (simp [IntKind.bits, dflt] <;> omega) | (simp at *; omega))
      | rfl)
    refine OpW_weak (Wk_freeze (o := 12000) rfl) ?_
    repeat' (first
      | exact trivial
      | (refine inWO ?_; first
        | refine WO_runE (nw := false) rfl rfl ?_ ?_
        | refine WO_runG (nw := false) rfl rfl rfl rfl rfl ?_ ?_
        | refine WO_runU (nw := false) rfl rfl rfl rfl rfl ?_ ?_
        | refine WO_run1 (nw := false) rfl rfl ?_ ?_
        | refine WO_cons rfl ?_
        | refine WO_gT rfl rfl rfl rfl rfl ?_
        | (refine WO_split rfl rfl rfl rfl ?_ ?_ <;> intro hq <;> try (exfalso; (simp_all) <;> omega))
        | refine WO_nil ?_)
      | (refine inRW ?_; first
        | refine RW_runE (nw := false) rfl rfl (fun _ _ => rfl) rfl ?_ ?_
        | refine RW_runG (nw := false) rfl rfl rfl rfl rfl (fun _ _ => rfl) rfl ?_ ?_
        | refine RW_runU (nw := false) rfl rfl rfl rfl rfl (fun _ _ => rfl) rfl ?_ ?_
        | refine RW_op (us := ?_) (ub := ?_) (fp := ?_) rfl (fun s0 b0 => ?_) ?_ ?_
        | refine RW_opT (us := ?_) (ub := ?_) (fp := ?_) rfl rfl rfl rfl (fun s0 b0 => ?_) ?_ ?_
        | (refine RW_split rfl rfl rfl ?_ ?_ <;> intro hq <;> try (exfalso; (simp_all) <;> omega))
        | refine RW_nil ?_ (by first | decide +kernel | kernel_rfl))
      | (refine gate 1 rfl ?_; first
        | refine callB (h2) rfl rfl rfl rfl rfl rfl rfl rfl rfl ⟨rfl, trivial⟩ ⟨rfl, rfl, rfl, trivial⟩ rfl rfl rfl rfl rfl rfl rfl rfl ?_)
      | (refine gate 5 rfl ?_; first
        | refine litR rfl rfl rfl rfl rfl rfl rfl rfl ?_
        | refine litW rfl rfl rfl rfl rfl rfl ?_)
      | (refine gate 6 rfl ?_; refine mkS rfl rfl rfl rfl rfl rfl rfl rfl rfl rfl rfl rfl rfl ?_ ?_ ?_ ?_)
      | (refine gate 6 rfl ?_; refine op_makeD _ rfl rfl rfl rfl rfl rfl rfl rfl rfl rfl rfl rfl rfl ?_ ?_ ?_ ?_)
      | (refine gate 0 rfl ?_; refine op_storeD rfl rfl rfl rfl rfl rfl rfl rfl rfl rfl ?_)
      | (refine gate 8 rfl ?_; refine op_mkFn rfl rfl rfl rfl ?_)
      | (refine gate 7 rfl ?_; refine op_nil rfl rfl rfl rfl rfl rfl (fun b hb => ?_))
      | (refine inW ?_; first
        | refine W_seq ?_
        | refine W_region ?_
        | refine W_block ?_
        | refine W_skip ?_
        | refine W_exit ?_
        | refine W_ret ?_
        | refine W_condT rfl rfl ?_
        | refine W_condF rfl rfl ?_
        | (refine W_condB rfl ?_ ?_ <;> intro hq <;> try (exfalso; (simp_all) <;> omega)))
      | (refine inE ?_; first
        | refine end_d rfl rfl rfl rfl ?_ ?_
        | refine end_o rfl rfl rfl rfl ?_ ?_
        | refine end_of rfl rfl rfl ?_ ?_)
      | refine rsOne ?_
      | refine msPd rfl ?_
      | refine msPn ?_
      | refine msPo rfl ?_
      | refine And.intro ?_ ?_
      | (show List.length _ ≠ 1; simp)
      | (show (_ : Int) ≤ _; first | omega | (simp [IntKind.bits, dflt] <;> omega) | (simp at *; omega))
      | (show (_ : Int) < _; first | omega | (simp [IntKind.bits, dflt] <;> omega) | (simp at *; omega))
      | (show (_ : Nat) ≤ _; first | omega | (unfold maxLen; omega) | (simp [IntKind.bits, dflt] <;> omega) | (simp at *; omega))
      | rfl)
    refine OpW_weak (Wk_freeze (o := 15002) rfl) ?_
    repeat' (first
      | exact trivial
      | (refine inWO ?_; first
        | refine WO_runE (nw := false) rfl rfl ?_ ?_
        | refine WO_runG (nw := false) rfl rfl rfl rfl rfl ?_ ?_
        | refine WO_runU (nw := false) rfl rfl rfl rfl rfl ?_ ?_
        | refine WO_run1 (nw := false) rfl rfl ?_ ?_
        | refine WO_cons rfl ?_
        | refine WO_gT rfl rfl rfl rfl rfl ?_
        | (refine WO_split rfl rfl rfl rfl ?_ ?_ <;> intro hq <;> try (exfalso; (simp_all) <;> omega))
        | refine WO_nil ?_)
      | (refine inRW ?_; first
        | refine RW_runE (nw := false) rfl rfl (fun _ _ => rfl) rfl ?_ ?_
        | refine RW_runG (nw := false) rfl rfl rfl rfl rfl (fun _ _ => rfl) rfl ?_ ?_
        | refine RW_runU (nw := false) rfl rfl rfl rfl rfl (fun _ _ => rfl) rfl ?_ ?_
        | refine RW_op (us := ?_) (ub := ?_) (fp := ?_) rfl (fun s0 b0 => ?_) ?_ ?_
        | refine RW_opT (us := ?_) (ub := ?_) (fp := ?_) rfl rfl rfl rfl (fun s0 b0 => ?_) ?_ ?_
        | (refine RW_split rfl rfl rfl ?_ ?_ <;> intro hq <;> try (exfalso; (simp_all) <;> omega))
        | refine RW_nil ?_ (by first | decide +kernel | kernel_rfl))
      | (refine gate 1 rfl ?_; first
        | refine callB (h3) rfl rfl rfl rfl rfl rfl rfl rfl rfl ⟨rfl, trivial⟩ ⟨rfl, rfl, rfl, trivial⟩ rfl rfl rfl rfl rfl rfl rfl rfl ?_
        | refine callB (h4) rfl rfl rfl rfl rfl rfl rfl rfl rfl ⟨rfl, trivial⟩ ⟨rfl, rfl, rfl, trivial⟩ rfl rfl rfl rfl rfl rfl rfl rfl ?_
        | refine callB (h5) rfl rfl rfl rfl rfl rfl rfl rfl rfl ⟨rfl, trivial⟩ ⟨rfl, rfl, rfl, trivial⟩ rfl rfl rfl rfl rfl rfl rfl rfl ?_)
      | (refine gate 5 rfl ?_; first
        | refine litR rfl rfl rfl rfl rfl rfl rfl rfl ?_
        | refine litW rfl rfl rfl rfl rfl rfl ?_)
      | (refine gate 6 rfl ?_; refine mkS rfl rfl rfl rfl rfl rfl rfl rfl rfl rfl rfl rfl rfl ?_ ?_ ?_ ?_)
      | (refine gate 6 rfl ?_; refine op_makeD _ rfl rfl rfl rfl rfl rfl rfl rfl rfl rfl rfl rfl rfl ?_ ?_ ?_ ?_)
      | (refine gate 0 rfl ?_; refine op_storeD rfl rfl rfl rfl rfl rfl rfl rfl rfl rfl ?_)
      | (refine gate 8 rfl ?_; refine op_mkFn rfl rfl rfl rfl ?_)
      | (refine gate 7 rfl ?_; refine op_nil rfl rfl rfl rfl rfl rfl (fun b hb => ?_))
      | (refine inW ?_; first
        | refine W_seq ?_
        | refine W_region ?_
        | refine W_drawN (by decide +kernel) ?_
        | refine W_block ?_
        | refine W_skip ?_
        | refine W_exit ?_
        | refine W_ret ?_
        | refine W_condT rfl rfl ?_
        | refine W_condF rfl rfl ?_
        | (refine W_condB rfl ?_ ?_ <;> intro hq <;> try (exfalso; (simp_all) <;> omega)))
      | (refine inE ?_; first
        | refine end_d rfl rfl rfl rfl ?_ ?_
        | refine end_o rfl rfl rfl rfl ?_ ?_
        | refine end_of rfl rfl rfl ?_ ?_)
      | refine rsOne ?_
      | refine msPd rfl ?_
      | refine msPn ?_
      | refine msPo rfl ?_
      | refine And.intro ?_ ?_
      | (show List.length _ ≠ 1; simp)
      | (show (_ : Int) ≤ _; first | omega | (simp [IntKind.bits, dflt] <;> omega) | (simp at *; omega))
      | (show (_ : Int) < _; first | omega | (simp [IntKind.bits, dflt] <;> omega) | (simp at *; omega))
      | (show (_ : Nat) ≤ _; first | omega | (unfold maxLen; omega) | (simp [IntKind.bits, dflt] <;> omega) | (simp at *; omega))
      | rfl)
  · by_cases q1 : p4.1 = 1
    · obtain ⟨p5, n5, h5⟩ := raw_ex code p4.2.1 p4.2.2 hl c4 (by omega)
      refine ⟨((p2.1.1, p5.1, p2.1.2.2), (IntKind.i64.wrap (p3.1.1 + p2.1.1), p3.1.2)), by simp only; omega, by simp only; omega, ?_⟩
      refine FnC_of (fn := Tryd.f11) Tryd.func11 rfl rfl rfl ?_
      repeat' (first
        | exact trivial
        | (refine inWO ?_; first
          | refine WO_runE (nw := true) rfl rfl ?_ ?_
          | refine WO_runG (nw := true) rfl rfl rfl rfl rfl ?_ ?_
          | refine WO_runU (nw := true) rfl rfl rfl rfl rfl ?_ ?_
          | refine WO_run1 (nw := true) rfl rfl ?_ ?_
          | refine WO_cons rfl ?_
          | refine WO_gT rfl rfl rfl rfl rfl ?_
          | (refine WO_split rfl rfl rfl rfl ?_ ?_ <;> intro hq <;> try (exfalso; (simp_all) <;> omega))
          | refine WO_nil ?_)
        | (refine inRW ?_; first
          | refine RW_runE (nw := true) rfl rfl (fun _ _ => rfl) rfl ?_ ?_
          | refine RW_runG (nw := true) rfl rfl rfl rfl rfl (fun _ _ => rfl) rfl ?_ ?_
          | refine RW_runU (nw := true) rfl rfl rfl rfl rfl (fun _ _ => rfl) rfl ?_ ?_
          | refine RW_op (us := ?_) (ub := ?_) (fp := ?_) rfl (fun s0 b0 => ?_) ?_ ?_
          | refine RW_opT (us := ?_) (ub := ?_) (fp := ?_) rfl rfl rfl rfl (fun s0 b0 => ?_) ?_ ?_
          | (refine RW_split rfl rfl rfl ?_ ?_ <;> intro hq <;> try (exfalso; (simp_all) <;> omega))
          | refine RW_nil ?_ (by first | decide +kernel | kernel_rfl))
        | (refine gate 1 rfl ?_; first
          | refine op_callBx (ho) rfl rfl rfl rfl (by (repeat' (first | exact trivial | refine And.intro ?_ ?_ | rfl)); done) rfl ?_
          | refine callB (h1) rfl rfl rfl rfl rfl rfl rfl rfl rfl ⟨rfl, trivial⟩ ⟨rfl, rfl, rfl, trivial⟩ rfl rfl rfl rfl rfl rfl rfl rfl ?_)
        | (refine gate 5 rfl ?_; first
          | refine litR rfl rfl rfl rfl rfl rfl rfl rfl ?_
          | refine litW rfl rfl rfl rfl rfl rfl ?_)
        | (refine gate 6 rfl ?_; refine mkS rfl rfl rfl rfl rfl rfl rfl rfl rfl rfl rfl rfl rfl ?_ ?_ ?_ ?_)
        | (refine gate 6 rfl ?_; refine op_makeD _ rfl rfl rfl rfl rfl rfl rfl rfl rfl rfl rfl rfl rfl ?_ ?_ ?_ ?_)
        | (refine gate 0 rfl ?_; refine op_storeD rfl rfl rfl rfl rfl rfl rfl rfl rfl rfl ?_)
        | (refine gate 8 rfl ?_; refine op_mkFn rfl rfl rfl rfl ?_)
        | (refine gate 7 rfl ?_; refine op_nil rfl rfl rfl rfl rfl rfl (fun b hb => ?_))
        | (refine inW ?_; first
          | refine W_seq ?_
          | refine W_region ?_
          | refine W_block ?_
          | refine W_skip ?_
          | refine W_exit ?_
          | refine W_ret ?_
          | refine W_condT rfl rfl ?_
          | refine W_condF rfl rfl ?_
          | (refine W_condB rfl ?_ ?_ <;> intro hq <;> try (exfalso; (simp_all) <;> omega)))
        | (refine inE ?_; first
          | refine end_d rfl rfl rfl rfl ?_ ?_
          | refine end_o rfl rfl rfl rfl ?_ ?_
          | refine end_of rfl rfl rfl ?_ ?_)
        | refine rsOne ?_
        | refine msPd rfl ?_
        | refine msPn ?_
        | refine msPo rfl ?_
        | refine And.intro ?_ ?_
        | (show List.length _ ≠ 1; simp)
        | (show (_ : Int) ≤ _; first | omega | (simp [IntKind.bits, dflt] <;> omega) | (simp at *; omega))
        | (show (_ : Int) < _; first | omega | (simp [IntKind.bits, dflt] <;> omega) | (simp at *; omega))
        | (show (_ : Nat) ≤ _; first | omega | (unfold maxLen; omega) | (simp [IntKind.bits, dflt] <;> omega) | (simp at *; omega))
        | rfl)
      refine OpW_weak (Wk_freeze (o := 12000) rfl) ?_
      repeat' (first
        | exact trivial
        | (refine inWO ?_; first
          | refine WO_runE (nw := false) rfl rfl ?_ ?_
          | refine WO_runG (nw := false) rfl rfl rfl rfl rfl ?_ ?_
          | refine WO_runU (nw := false) rfl rfl rfl rfl rfl ?_ ?_
          | refine WO_run1 (nw := false) rfl rfl ?_ ?_
          | refine WO_cons rfl ?_
          | refine WO_gT rfl rfl rfl rfl rfl ?_
          | (refine WO_split rfl rfl rfl rfl ?_ ?_ <;> intro hq <;> try (exfalso; (simp_all) <;> omega))
          | refine WO_nil ?_)
        | (refine inRW ?_; first
          | refine RW_runE (nw := false) rfl rfl (fun _ _ => rfl) rfl ?_ ?_
          | refine RW_runG (nw := false) rfl rfl rfl rfl rfl (fun _ _ => rfl) rfl ?_ ?_
          | refine RW_runU (nw := false) rfl rfl rfl rfl rfl (fun _ _ => rfl) rfl ?_ ?_
          | refine RW_op (us := ?_) (ub := ?_) (fp := ?_) rfl (fun s0 b0 => ?_) ?_ ?_
          | refine RW_opT (us := ?_) (ub := ?_) (fp := ?_) rfl rfl rfl rfl (fun s0 b0 => ?_) ?_ ?_
          | (refine RW_split rfl rfl rfl ?_ ?_ <;> intro hq <;> try (exfalso; (simp_all) <;> omega))
          | refine RW_nil ?_ (by first | decide +kernel | kernel_rfl))
        | (refine gate 1 rfl ?_; first
          | refine callB (h2) rfl rfl rfl rfl rfl rfl rfl rfl rfl ⟨rfl, trivial⟩ ⟨rfl, rfl, rfl, trivial⟩ rfl rfl rfl rfl rfl rfl rfl rfl ?_)
        | (refine gate 5 rfl ?_; first
          | refine litR rfl rfl rfl rfl rfl rfl rfl rfl ?_
          | refine litW rfl rfl rfl rfl rfl rfl ?_)
        | (refine gate 6 rfl ?_; refine mkS rfl rfl rfl rfl rfl rfl rfl rfl rfl rfl rfl rfl rfl ?_ ?_ ?_ ?_)
        | (refine gate 6 rfl ?_; refine op_makeD _ rfl rfl rfl rfl rfl rfl rfl rfl rfl rfl rfl rfl rfl ?_ ?_ ?_ ?_)
        | (refine gate 0 rfl ?_; refine op_storeD rfl rfl rfl rfl rfl rfl rfl rfl rfl rfl ?_)
        | (refine gate 8 rfl ?_; refine op_mkFn rfl rfl rfl rfl ?_)
        | (refine gate 7 rfl ?_; refine op_nil rfl rfl rfl rfl rfl rfl (fun b hb => ?_))
        | (refine inW ?_; first
          | refine W_seq ?_
          | refine W_region ?_
          | refine W_block ?_
          | refine W_skip ?_
          | refine W_exit ?_
          | refine W_ret ?_
          | refine W_condT rfl rfl ?_
          | refine W_condF rfl rfl ?_
          | (refine W_condB rfl ?_ ?_ <;> intro hq <;> try (exfalso; (simp_all) <;> omega)))
        | (refine inE ?_; first
          | refine end_d rfl rfl rfl rfl ?_ ?_
          | refine end_o rfl rfl rfl rfl ?_ ?_
          | refine end_of rfl rfl rfl ?_ ?_)
        | refine rsOne ?_
        | refine msPd rfl ?_
        | refine msPn ?_
        | refine msPo rfl ?_
        | refine And.intro ?_ ?_
        | (show List.length _ ≠ 1; simp)
        | (show (_ : Int) ≤ _; first | omega | (simp [IntKind.bits, dflt] <;> omega) | (simp at *; omega))
        | (show (_ : Int) < _; first | omega | (simp [IntKind.bits, dflt] <;> omega) | (simp at *; omega))
        | (show (_ : Nat) ≤ _; first | omega | (unfold maxLen; omega) | (simp [IntKind.bits, dflt] <;> omega) | (simp at *; omega))
        | rfl)
      refine OpW_weak (Wk_freeze (o := 15002) rfl) ?_
      repeat' (first
        | exact trivial
        | (refine inWO ?_; first
          | refine WO_runE (nw := false) rfl rfl ?_ ?_
          | refine WO_runG (nw := false) rfl rfl rfl rfl rfl ?_ ?_
          | refine WO_runU (nw := false) rfl rfl rfl rfl rfl ?_ ?_
          | refine WO_run1 (nw := false) rfl rfl ?_ ?_
          | refine WO_cons rfl ?_
          | refine WO_gT rfl rfl rfl rfl rfl ?_
          | (refine WO_split rfl rfl rfl rfl ?_ ?_ <;> intro hq <;> try (exfalso; (simp_all) <;> omega))
          | refine WO_nil ?_)
        | (refine inRW ?_; first
          | refine RW_runE (nw := false) rfl rfl (fun _ _ => rfl) rfl ?_ ?_
          | refine RW_runG (nw := false) rfl rfl rfl rfl rfl (fun _ _ => rfl) rfl ?_ ?_
          | refine RW_runU (nw := false) rfl rfl rfl rfl rfl (fun _ _ => rfl) rfl ?_ ?_
          | refine RW_op (us := ?_) (ub := ?_) (fp := ?_) rfl (fun s0 b0 => ?_) ?_ ?_
          | refine RW_opT (us := ?_) (ub := ?_) (fp := ?_) rfl rfl rfl rfl (fun s0 b0 => ?_) ?_ ?_
          | (refine RW_split rfl rfl rfl ?_ ?_ <;> intro hq <;> try (exfalso; (simp_all) <;> omega))
          | refine RW_nil ?_ (by first | decide +kernel | kernel_rfl))
        | (refine gate 1 rfl ?_; first
          | refine callB (h3) rfl rfl rfl rfl rfl rfl rfl rfl rfl ⟨rfl, trivial⟩ ⟨rfl, rfl, rfl, trivial⟩ rfl rfl rfl rfl rfl rfl rfl rfl ?_
          | refine callB (h4) rfl rfl rfl rfl rfl rfl rfl rfl rfl ⟨rfl, trivial⟩ ⟨rfl, rfl, rfl, trivial⟩ rfl rfl rfl rfl rfl rfl rfl rfl ?_
          | refine callB (h5) rfl rfl rfl rfl rfl rfl rfl rfl rfl trivial ⟨rfl, rfl, rfl, trivial⟩ rfl rfl rfl rfl rfl rfl rfl rfl ?_)
        | (refine gate 5 rfl ?_; first
          | refine litR rfl rfl rfl rfl rfl rfl rfl rfl ?_
          | refine litW rfl rfl rfl rfl rfl rfl ?_)
        | (refine gate 6 rfl ?_; refine mkS rfl rfl rfl rfl rfl rfl rfl rfl rfl rfl rfl rfl rfl ?_ ?_ ?_ ?_)
        | (refine gate 6 rfl ?_; refine op_makeD _ rfl rfl rfl rfl rfl rfl rfl rfl rfl rfl rfl rfl rfl ?_ ?_ ?_ ?_)
        | (refine gate 0 rfl ?_; refine op_storeD rfl rfl rfl rfl rfl rfl rfl rfl rfl rfl ?_)
        | (refine gate 8 rfl ?_; refine op_mkFn rfl rfl rfl rfl ?_)
        | (refine gate 7 rfl ?_; refine op_nil rfl rfl rfl rfl rfl rfl (fun b hb => ?_))
        | (refine inW ?_; first
          | refine W_seq ?_
          | refine W_region ?_
          | refine W_drawN (by decide +kernel) ?_
          | refine W_block ?_
          | refine W_skip ?_
          | refine W_exit ?_
          | refine W_ret ?_
          | refine W_condT rfl rfl ?_
          | refine W_condF rfl rfl ?_
          | (refine W_condB rfl ?_ ?_ <;> intro hq <;> try (exfalso; (simp_all) <;> omega)))
        | (refine inE ?_; first
          | refine end_d rfl rfl rfl rfl ?_ ?_
          | refine end_o rfl rfl rfl rfl ?_ ?_
          | refine end_of rfl rfl rfl ?_ ?_)
        | refine rsOne ?_
        | refine msPd rfl ?_
        | refine msPn ?_
        | refine msPo rfl ?_
        | refine And.intro ?_ ?_
        | (show List.length _ ≠ 1; simp)
        | (show (_ : Int) ≤ _; first | omega | (simp [IntKind.bits, dflt] <;> omega) | (simp at *; omega))
        | (show (_ : Int) < _; first | omega | (simp [IntKind.bits, dflt] <;> omega) | (simp at *; omega))
        | (show (_ : Nat) ≤ _; first | omega | (unfold maxLen; omega) | (simp [IntKind.bits, dflt] <;> omega) | (simp at *; omega))
        | rfl)
    · by_cases q2 : p4.1 = 2
      · obtain ⟨p5, b5, n5, h5⟩ := pick_ex code p4.2.1 p4.2.2 9 hl c4
        have n15 := n14.trans n5
        have c5 := n15.next (Int.le_refl _) (by decide)
        have e5 := n15.a1
        have b5' := b5.2.1 (by decide)
        obtain ⟨p6, b6, n6, h6⟩ := pick_ex code p5.2.1 p5.2.2 9 hl c5
        have b6' := b6.2.1 (by decide)
        have hw : IntKind.i64.wrap (IntKind.i64.wrap (400 - p5.1) + p6.1) = 400 - p5.1 + p6.1 := by
          have hw1 : IntKind.i64.wrap (400 - p5.1) = 400 - p5.1 := by rw [inR_wrap]; simp only [inR]; omega
          rw [hw1, inR_wrap]; simp only [inR]; omega
        refine ⟨(p2.1, (IntKind.i64.wrap (p3.1.1 + p2.1.1), p3.1.2.1, List.replicate (IntKind.i64.wrap (IntKind.i64.wrap (400 - p5.1) + p6.1)).toNat 0)), by simp only; omega, by simp only [List.length_replicate, hw]; omega, ?_⟩
        refine FnC_of (fn := Tryd.f11) Tryd.func11 rfl rfl rfl ?_
        repeat' (first
          | exact trivial
          | (refine inWO ?_; first
            | refine WO_runE (nw := true) rfl rfl ?_ ?_
            | refine WO_runG (nw := true) rfl rfl rfl rfl rfl ?_ ?_
            | refine WO_runU (nw := true) rfl rfl rfl rfl rfl ?_ ?_
            | refine WO_run1 (nw := true) rfl rfl ?_ ?_
            | refine WO_cons rfl ?_
            | refine WO_gT rfl rfl rfl rfl rfl ?_
            | (refine WO_split rfl rfl rfl rfl ?_ ?_ <;> intro hq <;> try (exfalso; (simp_all) <;> omega))
            | refine WO_nil ?_)
          | (refine inRW ?_; first
            | refine RW_runE (nw := true) rfl rfl (fun _ _ => rfl) rfl ?_ ?_
            | refine RW_runG (nw := true) rfl rfl rfl rfl rfl (fun _ _ => rfl) rfl ?_ ?_
            | refine RW_runU (nw := true) rfl rfl rfl rfl rfl (fun _ _ => rfl) rfl ?_ ?_
            | refine RW_op (us := ?_) (ub := ?_) (fp := ?_) rfl (fun s0 b0 => ?_) ?_ ?_
            | refine RW_opT (us := ?_) (ub := ?_) (fp := ?_) rfl rfl rfl rfl (fun s0 b0 => ?_) ?_ ?_
            | (refine RW_split rfl rfl rfl ?_ ?_ <;> intro hq <;> try (exfalso; (simp_all) <;> omega))
            | refine RW_nil ?_ (by first | decide +kernel | kernel_rfl))
          | (refine gate 1 rfl ?_; first
            | refine op_callBx (ho) rfl rfl rfl rfl (by (repeat' (first | exact trivial | refine And.intro ?_ ?_ | rfl)); done) rfl ?_
            | refine callB (h1) rfl rfl rfl rfl rfl rfl rfl rfl rfl ⟨rfl, trivial⟩ ⟨rfl, rfl, rfl, trivial⟩ rfl rfl rfl rfl rfl rfl rfl rfl ?_)
          | (refine gate 5 rfl ?_; first
            | refine litR rfl rfl rfl rfl rfl rfl rfl rfl ?_
            | refine litW rfl rfl rfl rfl rfl rfl ?_)
          | (refine gate 6 rfl ?_; refine mkS rfl rfl rfl rfl rfl rfl rfl rfl rfl rfl rfl rfl rfl ?_ ?_ ?_ ?_)
          | (refine gate 6 rfl ?_; refine op_makeD _ rfl rfl rfl rfl rfl rfl rfl rfl rfl rfl rfl rfl rfl ?_ ?_ ?_ ?_)
          | (refine gate 0 rfl ?_; refine op_storeD rfl rfl rfl rfl rfl rfl rfl rfl rfl rfl ?_)
          | (refine gate 8 rfl ?_; refine op_mkFn rfl rfl rfl rfl ?_)
          | (refine gate 7 rfl ?_; refine op_nil rfl rfl rfl rfl rfl rfl (fun b hb => ?_))
          | (refine inW ?_; first
            | refine W_seq ?_
            | refine W_region ?_
            | refine W_block ?_
            | refine W_skip ?_
            | refine W_exit ?_
            | refine W_ret ?_
            | refine W_condT rfl rfl ?_
            | refine W_condF rfl rfl ?_
            | (refine W_condB rfl ?_ ?_ <;> intro hq <;> try (exfalso; (simp_all) <;> omega)))
          | (refine inE ?_; first
            | refine end_d rfl rfl rfl rfl ?_ ?_
            | refine end_o rfl rfl rfl rfl ?_ ?_
            | refine end_of rfl rfl rfl ?_ ?_)
          | refine rsOne ?_
          | refine msPd rfl ?_
          | refine msPn ?_
          | refine msPo rfl ?_
          | refine And.intro ?_ ?_
          | (show List.length _ ≠ 1; simp)
          | (show (_ : Int) ≤ _; first | omega | (simp [IntKind.bits, dflt] <;> omega) | (simp at *; omega))
          | (show (_ : Int) < _; first | omega | (simp [IntKind.bits, dflt] <;> omega) | (simp at *; omega))
          | (show (_ : Nat) ≤ _; first | omega | (unfold maxLen; omega) | (simp [IntKind.bits, dflt] <;> omega) | (simp at *; omega))
          | rfl)
        refine OpW_weak (Wk_freeze (o := 12000) rfl) ?_
        repeat' (first
          | exact trivial
          | (refine inWO ?_; first
            | refine WO_runE (nw := false) rfl rfl ?_ ?_
            | refine WO_runG (nw := false) rfl rfl rfl rfl rfl ?_ ?_
            | refine WO_runU (nw := false) rfl rfl rfl rfl rfl ?_ ?_
            | refine WO_run1 (nw := false) rfl rfl ?_ ?_
            | refine WO_cons rfl ?_
            | refine WO_gT rfl rfl rfl rfl rfl ?_
            | (refine WO_split rfl rfl rfl rfl ?_ ?_ <;> intro hq <;> try (exfalso; (simp_all) <;> omega))
            | refine WO_nil ?_)
          | (refine inRW ?_; first
            | refine RW_runE (nw := false) rfl rfl (fun _ _ => rfl) rfl ?_ ?_
            | refine RW_runG (nw := false) rfl rfl rfl rfl rfl (fun _ _ => rfl) rfl ?_ ?_
            | refine RW_runU (nw := false) rfl rfl rfl rfl rfl (fun _ _ => rfl) rfl ?_ ?_
            | refine RW_op (us := ?_) (ub := ?_) (fp := ?_) rfl (fun s0 b0 => ?_) ?_ ?_
            | refine RW_opT (us := ?_) (ub := ?_) (fp := ?_) rfl rfl rfl rfl (fun s0 b0 => ?_) ?_ ?_
            | (refine RW_split rfl rfl rfl ?_ ?_ <;> intro hq <;> try (exfalso; (simp_all) <;> omega))
            | refine RW_nil ?_ (by first | decide +kernel | kernel_rfl))
          | (refine gate 1 rfl ?_; first
            | refine callB (h2) rfl rfl rfl rfl rfl rfl rfl rfl rfl ⟨rfl, trivial⟩ ⟨rfl, rfl, rfl, trivial⟩ rfl rfl rfl rfl rfl rfl rfl rfl ?_)
          | (refine gate 5 rfl ?_; first
            | refine litR rfl rfl rfl rfl rfl rfl rfl rfl ?_
            | refine litW rfl rfl rfl rfl rfl rfl ?_)
          | (refine gate 6 rfl ?_; refine mkS rfl rfl rfl rfl rfl rfl rfl rfl rfl rfl rfl rfl rfl ?_ ?_ ?_ ?_)
          | (refine gate 6 rfl ?_; refine op_makeD _ rfl rfl rfl rfl rfl rfl rfl rfl rfl rfl rfl rfl rfl ?_ ?_ ?_ ?_)
          | (refine gate 0 rfl ?_; refine op_storeD rfl rfl rfl rfl rfl rfl rfl rfl rfl rfl ?_)
          | (refine gate 8 rfl ?_; refine op_mkFn rfl rfl rfl rfl ?_)
          | (refine gate 7 rfl ?_; refine op_nil rfl rfl rfl rfl rfl rfl (fun b hb => ?_))
          | (refine inW ?_; first
            | refine W_seq ?_
            | refine W_region ?_
            | refine W_block ?_
            | refine W_skip ?_
            | refine W_exit ?_
            | refine W_ret ?_
            | refine W_condT rfl rfl ?_
            | refine W_condF rfl rfl ?_
            | (refine W_condB rfl ?_ ?_ <;> intro hq <;> try (exfalso; (simp_all) <;> omega)))
          | (refine inE ?_; first
            | refine end_d rfl rfl rfl rfl ?_ ?_
            | refine end_o rfl rfl rfl rfl ?_ ?_
            | refine end_of rfl rfl rfl ?_ ?_)
          | refine rsOne ?_
          | refine msPd rfl ?_
          | refine msPn ?_
          | refine msPo rfl ?_
          | refine And.intro ?_ ?_
          | (show List.length _ ≠ 1; simp)
          | (show (_ : Int) ≤ _; first | omega | (simp [IntKind.bits, dflt] <;> omega) | (simp at *; omega))
          | (show (_ : Int) < _; first | omega | (simp [IntKind.bits, dflt] <;> omega) | (simp at *; omega))
          | (show (_ : Nat) ≤ _; first | omega | (unfold maxLen; omega) | (simp [IntKind.bits, dflt] <;> omega) | (simp at *; omega))
          | rfl)
        refine OpW_weak (Wk_freeze (o := 15002) rfl) ?_
        repeat' (first
          | exact trivial
          | (refine inWO ?_; first
            | refine WO_runE (nw := false) rfl rfl ?_ ?_
            | refine WO_runG (nw := false) rfl rfl rfl rfl rfl ?_ ?_
            | refine WO_runU (nw := false) rfl rfl rfl rfl rfl ?_ ?_
            | refine WO_run1 (nw := false) rfl rfl ?_ ?_
            | refine WO_cons rfl ?_
            | refine WO_gT rfl rfl rfl rfl rfl ?_
            | (refine WO_split rfl rfl rfl rfl ?_ ?_ <;> intro hq <;> try (exfalso; (simp_all) <;> omega))
            | refine WO_nil ?_)
          | (refine inRW ?_; first
            | refine RW_runE (nw := false) rfl rfl (fun _ _ => rfl) rfl ?_ ?_
            | refine RW_runG (nw := false) rfl rfl rfl rfl rfl (fun _ _ => rfl) rfl ?_ ?_
            | refine RW_runU (nw := false) rfl rfl rfl rfl rfl (fun _ _ => rfl) rfl ?_ ?_
            | refine RW_op (us := ?_) (ub := ?_) (fp := ?_) rfl (fun s0 b0 => ?_) ?_ ?_
            | refine RW_opT (us := ?_) (ub := ?_) (fp := ?_) rfl rfl rfl rfl (fun s0 b0 => ?_) ?_ ?_
            | (refine RW_split rfl rfl rfl ?_ ?_ <;> intro hq <;> try (exfalso; (simp_all) <;> omega))
            | refine RW_nil ?_ (by first | decide +kernel | kernel_rfl))
          | (refine gate 1 rfl ?_; first
            | refine callB (h3) rfl rfl rfl rfl rfl rfl rfl rfl rfl ⟨rfl, trivial⟩ ⟨rfl, rfl, rfl, trivial⟩ rfl rfl rfl rfl rfl rfl rfl rfl ?_
            | refine callB (h4) rfl rfl rfl rfl rfl rfl rfl rfl rfl ⟨rfl, trivial⟩ ⟨rfl, rfl, rfl, trivial⟩ rfl rfl rfl rfl rfl rfl rfl rfl ?_
            | refine callB (h5) rfl rfl rfl rfl rfl rfl rfl rfl rfl ⟨rfl, trivial⟩ ⟨rfl, rfl, rfl, trivial⟩ rfl rfl rfl rfl rfl rfl rfl rfl ?_
            | refine callB (h6) rfl rfl rfl rfl rfl rfl rfl rfl rfl ⟨rfl, trivial⟩ ⟨rfl, rfl, rfl, trivial⟩ rfl rfl rfl rfl rfl rfl rfl rfl ?_)
          | (refine gate 5 rfl ?_; first
            | refine litR rfl rfl rfl rfl rfl rfl rfl rfl ?_
            | refine litW rfl rfl rfl rfl rfl rfl ?_)
          | (refine gate 6 rfl ?_; refine mkS rfl rfl rfl rfl rfl rfl rfl rfl rfl rfl rfl rfl rfl ?_ ?_ ?_ ?_)
          | (refine gate 6 rfl ?_; refine op_makeD _ rfl rfl rfl rfl rfl rfl rfl rfl rfl rfl rfl rfl rfl ?_ ?_ ?_ ?_)
          | (refine gate 0 rfl ?_; refine op_storeD rfl rfl rfl rfl rfl rfl rfl rfl rfl rfl ?_)
          | (refine gate 8 rfl ?_; refine op_mkFn rfl rfl rfl rfl ?_)
          | (refine gate 7 rfl ?_; refine op_nil rfl rfl rfl rfl rfl rfl (fun b hb => ?_))
          | (refine inW ?_; first
            | refine W_seq ?_
            | refine W_region ?_
            | refine W_drawN (by decide +kernel) ?_
            | refine W_block ?_
            | refine W_skip ?_
            | refine W_exit ?_
            | refine W_ret ?_
            | refine W_condT rfl rfl ?_
            | refine W_condF rfl rfl ?_
            | (refine W_condB rfl ?_ ?_ <;> intro hq <;> try (exfalso; (simp_all) <;> omega)))
          | (refine inE ?_; first
            | refine end_d rfl rfl rfl rfl ?_ ?_
            | refine end_o rfl rfl rfl rfl ?_ ?_
            | refine end_of rfl rfl rfl ?_ ?_)
          | refine rsOne ?_
          | refine msPd rfl ?_
          | refine msPn ?_
          | refine msPo rfl ?_
          | refine And.intro ?_ ?_
          | (show List.length _ ≠ 1; simp)
          | (show (_ : Int) ≤ _; first | omega | (simp [IntKind.bits, dflt] <;> omega) | (simp at *; omega))
          | (show (_ : Int) < _; first | omega | (simp [IntKind.bits, dflt] <;> omega) | (simp at *; omega))
          | (show (_ : Nat) ≤ _; first | omega | (unfold maxLen; omega) | (simp [IntKind.bits, dflt] <;> omega) | (simp at *; omega))
          | rfl)
        all_goals first
          | (rw [hw]; omega)
          | (rw [hw]; simp; omega)
      · refine ⟨(p2.1, (IntKind.i64.wrap (p3.1.1 + p2.1.1), p3.1.2)), by simp only; omega, by simp only; omega, ?_⟩
        refine FnC_of (fn := Tryd.f11) Tryd.func11 rfl rfl rfl ?_
        repeat' (first
          | exact trivial
          | (refine inWO ?_; first
            | refine WO_runE (nw := true) rfl rfl ?_ ?_
            | refine WO_runG (nw := true) rfl rfl rfl rfl rfl ?_ ?_
            | refine WO_runU (nw := true) rfl rfl rfl rfl rfl ?_ ?_
            | refine WO_run1 (nw := true) rfl rfl ?_ ?_
            | refine WO_cons rfl ?_
            | refine WO_gT rfl rfl rfl rfl rfl ?_
            | (refine WO_split rfl rfl rfl rfl ?_ ?_ <;> intro hq <;> try (exfalso; (simp_all) <;> omega))
            | refine WO_nil ?_)
          | (refine inRW ?_; first
            | refine RW_runE (nw := true) rfl rfl (fun _ _ => rfl) rfl ?_ ?_
            | refine RW_runG (nw := true) rfl rfl rfl rfl rfl (fun _ _ => rfl) rfl ?_ ?_
            | refine RW_runU (nw := true) rfl rfl rfl rfl rfl (fun _ _ => rfl) rfl ?_ ?_
            | refine RW_op (us := ?_) (ub := ?_) (fp := ?_) rfl (fun s0 b0 => ?_) ?_ ?_
            | refine RW_opT (us := ?_) (ub := ?_) (fp := ?_) rfl rfl rfl rfl (fun s0 b0 => ?_) ?_ ?_
            | (refine RW_split rfl rfl rfl ?_ ?_ <;> intro hq <;> try (exfalso; (simp_all) <;> omega))
            | refine RW_nil ?_ (by first | decide +kernel | kernel_rfl))
          | (refine gate 1 rfl ?_; first
            | refine op_callBx (ho) rfl rfl rfl rfl (by (repeat' (first | exact trivial | refine And.intro ?_ ?_ | rfl)); done) rfl ?_
            | refine callB (h1) rfl rfl rfl rfl rfl rfl rfl rfl rfl ⟨rfl, trivial⟩ ⟨rfl, rfl, rfl, trivial⟩ rfl rfl rfl rfl rfl rfl rfl rfl ?_)
          | (refine gate 5 rfl ?_; first
            | refine litR rfl rfl rfl rfl rfl rfl rfl rfl ?_
            | refine litW rfl rfl rfl rfl rfl rfl ?_)
          | (refine gate 6 rfl ?_; refine mkS rfl rfl rfl rfl rfl rfl rfl rfl rfl rfl rfl rfl rfl ?_ ?_ ?_ ?_)
          | (refine gate 6 rfl ?_; refine op_makeD _ rfl rfl rfl rfl rfl rfl rfl rfl rfl rfl rfl rfl rfl ?_ ?_ ?_ ?_)
          | (refine gate 0 rfl ?_; refine op_storeD rfl rfl rfl rfl rfl rfl rfl rfl rfl rfl ?_)
          | (refine gate 8 rfl ?_; refine op_mkFn rfl rfl rfl rfl ?_)
          | (refine gate 7 rfl ?_; refine op_nil rfl rfl rfl rfl rfl rfl (fun b hb => ?_))
          | (refine inW ?_; first
            | refine W_seq ?_
            | refine W_region ?_
            | refine W_block ?_
            | refine W_skip ?_
            | refine W_exit ?_
            | refine W_ret ?_
            | refine W_condT rfl rfl ?_
            | refine W_condF rfl rfl ?_
            | (refine W_condB rfl ?_ ?_ <;> intro hq <;> try (exfalso; (simp_all) <;> omega)))
          | (refine inE ?_; first
            | refine end_d rfl rfl rfl rfl ?_ ?_
            | refine end_o rfl rfl rfl rfl ?_ ?_
            | refine end_of rfl rfl rfl ?_ ?_)
          | refine rsOne ?_
          | refine msPd rfl ?_
          | refine msPn ?_
          | refine msPo rfl ?_
          | refine And.intro ?_ ?_
          | (show List.length _ ≠ 1; simp)
          | (show (_ : Int) ≤ _; first | omega | (simp [IntKind.bits, dflt] <;> omega) | (simp at *; omega))
          | (show (_ : Int) < _; first | omega | (simp [IntKind.bits, dflt] <;> omega) | (simp at *; omega))
          | (show (_ : Nat) ≤ _; first | omega | (unfold maxLen; omega) | (simp [IntKind.bits, dflt] <;> omega) | (simp at *; omega))
          | rfl)
        refine OpW_weak (Wk_freeze (o := 12000) rfl) ?_
        repeat' (first
          | exact trivial
          | (refine inWO ?_; first
            | refine WO_runE (nw := false) rfl rfl ?_ ?_
            | refine WO_runG (nw := false) rfl rfl rfl rfl rfl ?_ ?_
            | refine WO_runU (nw := false) rfl rfl rfl rfl rfl ?_ ?_
            | refine WO_run1 (nw := false) rfl rfl ?_ ?_
            | refine WO_cons rfl ?_
            | refine WO_gT rfl rfl rfl rfl rfl ?_
            | (refine WO_split rfl rfl rfl rfl ?_ ?_ <;> intro hq <;> try (exfalso; (simp_all) <;> omega))
            | refine WO_nil ?_)
          | (refine inRW ?_; first
            | refine RW_runE (nw := false) rfl rfl (fun _ _ => rfl) rfl ?_ ?_
            | refine RW_runG (nw := false) rfl rfl rfl rfl rfl (fun _ _ => rfl) rfl ?_ ?_
            | refine RW_runU (nw := false) rfl rfl rfl rfl rfl (fun _ _ => rfl) rfl ?_ ?_
            | refine RW_op (us := ?_) (ub := ?_) (fp := ?_) rfl (fun s0 b0 => ?_) ?_ ?_
            | refine RW_opT (us := ?_) (ub := ?_) (fp := ?_) rfl rfl rfl rfl (fun s0 b0 => ?_) ?_ ?_
            | (refine RW_split rfl rfl rfl ?_ ?_ <;> intro hq <;> try (exfalso; (simp_all) <;> omega))
            | refine RW_nil ?_ (by first | decide +kernel | kernel_rfl))
          | (refine gate 1 rfl ?_; first
            | refine callB (h2) rfl rfl rfl rfl rfl rfl rfl rfl rfl ⟨rfl, trivial⟩ ⟨rfl, rfl, rfl, trivial⟩ rfl rfl rfl rfl rfl rfl rfl rfl ?_)
          | (refine gate 5 rfl ?_; first
            | refine litR rfl rfl rfl rfl rfl rfl rfl rfl ?_
            | refine litW rfl rfl rfl rfl rfl rfl ?_)
          | (refine gate 6 rfl ?_; refine mkS rfl rfl rfl rfl rfl rfl rfl rfl rfl rfl rfl rfl rfl ?_ ?_ ?_ ?_)
          | (refine gate 6 rfl ?_; refine op_makeD _ rfl rfl rfl rfl rfl rfl rfl rfl rfl rfl rfl rfl rfl ?_ ?_ ?_ ?_)
          | (refine gate 0 rfl ?_; refine op_storeD rfl rfl rfl rfl rfl rfl rfl rfl rfl rfl ?_)
          | (refine gate 8 rfl ?_; refine op_mkFn rfl rfl rfl rfl ?_)
          | (refine gate 7 rfl ?_; refine op_nil rfl rfl rfl rfl rfl rfl (fun b hb => ?_))
          | (refine inW ?_; first
            | refine W_seq ?_
            | refine W_region ?_
            | refine W_block ?_
            | refine W_skip ?_
            | refine W_exit ?_
            | refine W_ret ?_
            | refine W_condT rfl rfl ?_
            | refine W_condF rfl rfl ?_
            | (refine W_condB rfl ?_ ?_ <;> intro hq <;> try (exfalso; (simp_all) <;> omega)))
          | (refine inE ?_; first
            | refine end_d rfl rfl rfl rfl ?_ ?_
            | refine end_o rfl rfl rfl rfl ?_ ?_
            | refine end_of rfl rfl rfl ?_ ?_)
          | refine rsOne ?_
          | refine msPd rfl ?_
          | refine msPn ?_
          | refine msPo rfl ?_
          | refine And.intro ?_ ?_
          | (show List.length _ ≠ 1; simp)
          | (show (_ : Int) ≤ _; first | omega | (simp [IntKind.bits, dflt] <;> omega) | (simp at *; omega))
          | (show (_ : Int) < _; first | omega | (simp [IntKind.bits, dflt] <;> omega) | (simp at *; omega))
          | (show (_ : Nat) ≤ _; first | omega | (unfold maxLen; omega) | (simp [IntKind.bits, dflt] <;> omega) | (simp at *; omega))
          | rfl)
        refine OpW_weak (Wk_freeze (o := 15002) rfl) ?_
        repeat' (first
          | exact trivial
          | (refine inWO ?_; first
            | refine WO_runE (nw := false) rfl rfl ?_ ?_
            | refine WO_runG (nw := false) rfl rfl rfl rfl rfl ?_ ?_
            | refine WO_runU (nw := false) rfl rfl rfl rfl rfl ?_ ?_
            | refine WO_run1 (nw := false) rfl rfl ?_ ?_
            | refine WO_cons rfl ?_
            | refine WO_gT rfl rfl rfl rfl rfl ?_
            | (refine WO_split rfl rfl rfl rfl ?_ ?_ <;> intro hq <;> try (exfalso; (simp_all) <;> omega))
            | refine WO_nil ?_)
          | (refine inRW ?_; first
            | refine RW_runE (nw := false) rfl rfl (fun _ _ => rfl) rfl ?_ ?_
            | refine RW_runG (nw := false) rfl rfl rfl rfl rfl (fun _ _ => rfl) rfl ?_ ?_
            | refine RW_runU (nw := false) rfl rfl rfl rfl rfl (fun _ _ => rfl) rfl ?_ ?_
            | refine RW_op (us := ?_) (ub := ?_) (fp := ?_) rfl (fun s0 b0 => ?_) ?_ ?_
            | refine RW_opT (us := ?_) (ub := ?_) (fp := ?_) rfl rfl rfl rfl (fun s0 b0 => ?_) ?_ ?_
            | (refine RW_split rfl rfl rfl ?_ ?_ <;> intro hq <;> try (exfalso; (simp_all) <;> omega))
            | refine RW_nil ?_ (by first | decide +kernel | kernel_rfl))
          | (refine gate 1 rfl ?_; first
            | refine callB (h3) rfl rfl rfl rfl rfl rfl rfl rfl rfl ⟨rfl, trivial⟩ ⟨rfl, rfl, rfl, trivial⟩ rfl rfl rfl rfl rfl rfl rfl rfl ?_
            | refine callB (h4) rfl rfl rfl rfl rfl rfl rfl rfl rfl ⟨rfl, trivial⟩ ⟨rfl, rfl, rfl, trivial⟩ rfl rfl rfl rfl rfl rfl rfl rfl ?_)
          | (refine gate 5 rfl ?_; first
            | refine litR rfl rfl rfl rfl rfl rfl rfl rfl ?_
            | refine litW rfl rfl rfl rfl rfl rfl ?_)
          | (refine gate 6 rfl ?_; refine mkS rfl rfl rfl rfl rfl rfl rfl rfl rfl rfl rfl rfl rfl ?_ ?_ ?_ ?_)
          | (refine gate 6 rfl ?_; refine op_makeD _ rfl rfl rfl rfl rfl rfl rfl rfl rfl rfl rfl rfl rfl ?_ ?_ ?_ ?_)
          | (refine gate 0 rfl ?_; refine op_storeD rfl rfl rfl rfl rfl rfl rfl rfl rfl rfl ?_)
          | (refine gate 8 rfl ?_; refine op_mkFn rfl rfl rfl rfl ?_)
          | (refine gate 7 rfl ?_; refine op_nil rfl rfl rfl rfl rfl rfl (fun b hb => ?_))
          | (refine inW ?_; first
            | refine W_seq ?_
            | refine W_region ?_
            | refine W_drawN (by decide +kernel) ?_
            | refine W_block ?_
            | refine W_skip ?_
            | refine W_exit ?_
            | refine W_ret ?_
            | refine W_condT rfl rfl ?_
            | refine W_condF rfl rfl ?_
            | (refine W_condB rfl ?_ ?_ <;> intro hq <;> try (exfalso; (simp_all) <;> omega)))
          | (refine inE ?_; first
            | refine end_d rfl rfl rfl rfl ?_ ?_
            | refine end_o rfl rfl rfl rfl ?_ ?_
            | refine end_of rfl rfl rfl ?_ ?_)
          | refine rsOne ?_
          | refine msPd rfl ?_
          | refine msPn ?_
          | refine msPo rfl ?_
          | refine And.intro ?_ ?_
          | (show List.length _ ≠ 1; simp)
          | (show (_ : Int) ≤ _; first | omega | (simp [IntKind.bits, dflt] <;> omega) | (simp at *; omega))
          | (show (_ : Int) < _; first | omega | (simp [IntKind.bits, dflt] <;> omega) | (simp at *; omega))
          | (show (_ : Nat) ≤ _; first | omega | (unfold maxLen; omega) | (simp [IntKind.bits, dflt] <;> omega) | (simp at *; omega))
          | rfl)
end Go.LX
