/- A part of the proof of the statement in the row text. -/
import Derived.Test.YtojaiockbpcilaaDoorLzE8
import Derived.Test.YtojaiockbpcilaaDoorLzF0
set_option linter.unusedVariables false
set_option linter.unusedSimpArgs false
namespace Go.LX
open Go.Proofs
attribute [local irreducible] W WO OpW RW EndQ
set_option maxHeartbeats 4000000 in
set_option maxRecDepth 20000 in
theorem draweb_ex (code : List UInt8) (hl : code.length ≤ 16777216) : ∃ r : List UInt8 × Ed, r.1.length ≤ 40 ∧ r.2.2.2.length ≤ 1001 ∧ FnC Tryd.prog 18 [aBy code] [aX] (.tu [(false, [sBy r.1]), (true, [sI r.2.1, sI r.2.2.1, oBy r.2.2.2])]) := by
  have ho := open_ok code hl
  obtain ⟨p1, b1, n1, h1⟩ := text_ex code 0 _ 40 hl (open_b (n := code.length)) (by decide) (by decide)
  have c1 := n1.next (Int.le_refl _) (by decide)
  have e1 := n1.a1
  obtain ⟨p2, b2, n2, h2⟩ := badedit_ex code p1.2.1 p1.2.2 p1.1 hl c1 (by omega) (by omega)
  refine ⟨(p1.1, p2.1), by simp only; omega, b2, ?_⟩
  refine FnC_of (fn := Tryd.f18) Tryd.func18 rfl rfl rfl ?_
  repeat' (first
    | exact trivial
    | (refine inWO ?_; first
      | refine WO_runE (nw := true) rfl rfl ?_ ?_
      | refine WO_runG (nw := true) rfl rfl rfl rfl rfl ?_ ?_
      | refine WO_runU (nw := true) rfl rfl rfl rfl rfl ?_ ?_
      | refine WO_run1 (nw := true) rfl rfl ?_ ?_
      | refine WO_cons rfl ?_
      | refine WO_gT rfl rfl rfl rfl rfl ?_
      | (refine WO_split rfl rfl rfl rfl ?_ ?_ <;> intro hq <;> try (exfalso; (simp_all) <;> omega))
      | refine WO_nil ?_)
    | (refine inRW ?_; first
      | refine RW_runE (nw := true) rfl rfl (fun _ _ => rfl) rfl ?_ ?_
      | refine RW_runG (nw := true) rfl rfl rfl rfl rfl (fun _ _ => rfl) rfl ?_ ?_
      | refine RW_runU (nw := true) rfl rfl rfl rfl rfl (fun _ _ => rfl) rfl ?_ ?_
      | refine RW_op (us := ?_) (ub := ?_) (fp := ?_) rfl (fun s0 b0 => ?_) ?_ ?_
      | refine RW_opT (us := ?_) (ub := ?_) (fp := ?_) rfl rfl rfl rfl (fun s0 b0 => ?_) ?_ ?_
      | (refine RW_split rfl rfl rfl ?_ ?_ <;> intro hq <;> try (exfalso; (simp_all) <;> omega))
      | refine RW_nil ?_ (by first | decide +kernel | kernel_rfl))
    | (refine gate 1 rfl ?_; first
      | refine op_callBx (ho) rfl rfl rfl rfl (by (repeat' (first | exact trivial | refine And.intro ?_ ?_ | rfl)); done) rfl ?_
      | refine callB (h1) rfl rfl rfl rfl rfl rfl rfl rfl rfl ⟨rfl, trivial⟩ ⟨rfl, rfl, rfl, trivial⟩ rfl rfl rfl rfl rfl rfl rfl rfl ?_)
    | (refine gate 5 rfl ?_; first
      | refine litR rfl rfl rfl rfl rfl rfl rfl rfl ?_
      | refine litW rfl rfl rfl rfl rfl rfl ?_)
    | (refine gate 2 rfl ?_; first
      | refine apOS rfl rfl rfl rfl rfl rfl rfl rfl rfl rfl rfl ?_ ?_ ?_
      | refine apOL rfl rfl rfl rfl rfl rfl rfl rfl rfl rfl rfl rfl ?_ ?_ ?_
      | refine apNS rfl rfl rfl rfl rfl rfl rfl rfl rfl rfl rfl ?_ ?_ ?_
      | refine apNL rfl rfl rfl rfl rfl rfl rfl rfl rfl rfl rfl rfl ?_ ?_ ?_
      | refine apDO rfl rfl rfl rfl rfl rfl rfl rfl rfl rfl rfl rfl rfl rfl ?_ ?_ ?_
      | refine apDN rfl rfl rfl rfl rfl rfl rfl rfl rfl rfl rfl rfl rfl rfl ?_ ?_ ?_
      | refine op_apMk _ rfl rfl rfl rfl rfl rfl rfl rfl rfl rfl rfl rfl rfl ?_ ?_ ?_ ?_
      | refine apDS rfl rfl rfl rfl rfl rfl rfl rfl rfl rfl rfl ?_ ?_ ?_)
    | (refine gate 6 rfl ?_; refine mkS rfl rfl rfl rfl rfl rfl rfl rfl rfl rfl rfl rfl rfl ?_ ?_ ?_ ?_)
    | (refine gate 6 rfl ?_; refine op_makeD _ rfl rfl rfl rfl rfl rfl rfl rfl rfl rfl rfl rfl rfl ?_ ?_ ?_ ?_)
    | (refine gate 0 rfl ?_; refine op_storeD rfl rfl rfl rfl rfl rfl rfl rfl rfl rfl ?_)
    | (refine gate 3 rfl ?_; refine op_capN rfl rfl rfl rfl rfl ?_)
    | (refine gate 3 rfl ?_; refine op_copy rfl rfl rfl rfl rfl rfl rfl rfl rfl rfl rfl ?_)
    | (refine gate 8 rfl ?_; refine op_mkFn rfl rfl rfl rfl ?_)
    | (refine gate 7 rfl ?_; refine op_nil rfl rfl rfl rfl rfl rfl (fun b hb => ?_))
    | (refine inW ?_; first
      | refine W_seq ?_
      | refine W_region ?_
      | refine W_drawN (by decide +kernel) ?_
      | refine W_block ?_
      | refine W_skip ?_
      | refine W_exit ?_
      | refine W_ret ?_
      | refine W_condT rfl rfl ?_
      | refine W_condF rfl rfl ?_
      | (refine W_condB rfl ?_ ?_ <;> intro hq <;> try (exfalso; (simp_all) <;> omega)))
    | (refine inE ?_; first
      | refine end_d rfl rfl rfl rfl ?_ ?_
      | refine end_o rfl rfl rfl rfl ?_ ?_
      | refine end_of rfl rfl rfl ?_ ?_)
    | refine rsOne ?_
    | refine msPd rfl ?_
    | refine msPn ?_
    | refine msPo rfl ?_
    | refine And.intro ?_ ?_
    | (show List.length _ ≠ 1; simp)
    | (show (_ : Int) ≤ _; first | omega | (simp [IntKind.bits, dflt]; done) | (simp [IntKind.bits, dflt]; omega) | (simp at *; omega))
    | (show (_ : Int) < _; first | omega | (simp [IntKind.bits, dflt]; done) | (simp [IntKind.bits, dflt]; omega) | (simp at *; omega))
    | (show (_ : Nat) ≤ _; first | omega | (unfold maxLen; omega) | (simp [IntKind.bits, dflt]; done) | (simp [IntKind.bits, dflt]; omega) | (simp at *; omega))
    | rfl)
  refine OpW_weak (Wk_freeze (o := 10000) rfl) ?_
  repeat' (first
    | exact trivial
    | (refine inWO ?_; first
      | refine WO_runE (nw := true) rfl rfl ?_ ?_
      | refine WO_runG (nw := true) rfl rfl rfl rfl rfl ?_ ?_
      | refine WO_runU (nw := true) rfl rfl rfl rfl rfl ?_ ?_
      | refine WO_run1 (nw := true) rfl rfl ?_ ?_
      | refine WO_cons rfl ?_
      | refine WO_gT rfl rfl rfl rfl rfl ?_
      | (refine WO_split rfl rfl rfl rfl ?_ ?_ <;> intro hq <;> try (exfalso; (simp_all) <;> omega))
      | refine WO_nil ?_)
    | (refine inRW ?_; first
      | refine RW_runE (nw := true) rfl rfl (fun _ _ => rfl) rfl ?_ ?_
      | refine RW_runG (nw := true) rfl rfl rfl rfl rfl (fun _ _ => rfl) rfl ?_ ?_
      | refine RW_runU (nw := true) rfl rfl rfl rfl rfl (fun _ _ => rfl) rfl ?_ ?_
      | refine RW_op (us := ?_) (ub := ?_) (fp := ?_) rfl (fun s0 b0 => ?_) ?_ ?_
      | refine RW_opT (us := ?_) (ub := ?_) (fp := ?_) rfl rfl rfl rfl (fun s0 b0 => ?_) ?_ ?_
      | (refine RW_split rfl rfl rfl ?_ ?_ <;> intro hq <;> try (exfalso; (simp_all) <;> omega))
      | refine RW_nil ?_ (by first | decide +kernel | kernel_rfl))
    | (refine gate 1 rfl ?_; first
      | refine callB (h2) rfl rfl rfl rfl rfl rfl rfl rfl rfl ⟨rfl, trivial⟩ ⟨rfl, rfl, rfl, trivial⟩ rfl rfl rfl rfl rfl rfl rfl rfl ?_)
    | (refine gate 5 rfl ?_; first
      | refine litR rfl rfl rfl rfl rfl rfl rfl rfl ?_
      | refine litW rfl rfl rfl rfl rfl rfl ?_)
    | (refine gate 2 rfl ?_; first
      | refine apOS rfl rfl rfl rfl rfl rfl rfl rfl rfl rfl rfl ?_ ?_ ?_
      | refine apOL rfl rfl rfl rfl rfl rfl rfl rfl rfl rfl rfl rfl ?_ ?_ ?_
      | refine apNS rfl rfl rfl rfl rfl rfl rfl rfl rfl rfl rfl ?_ ?_ ?_
      | refine apNL rfl rfl rfl rfl rfl rfl rfl rfl rfl rfl rfl rfl ?_ ?_ ?_
      | refine apDO rfl rfl rfl rfl rfl rfl rfl rfl rfl rfl rfl rfl rfl rfl ?_ ?_ ?_
      | refine apDN rfl rfl rfl rfl rfl rfl rfl rfl rfl rfl rfl rfl rfl rfl ?_ ?_ ?_
      | refine op_apMk _ rfl rfl rfl rfl rfl rfl rfl rfl rfl rfl rfl rfl rfl ?_ ?_ ?_ ?_
      | refine apDS rfl rfl rfl rfl rfl rfl rfl rfl rfl rfl rfl ?_ ?_ ?_)
    | (refine gate 6 rfl ?_; refine mkS rfl rfl rfl rfl rfl rfl rfl rfl rfl rfl rfl rfl rfl ?_ ?_ ?_ ?_)
    | (refine gate 6 rfl ?_; refine op_makeD _ rfl rfl rfl rfl rfl rfl rfl rfl rfl rfl rfl rfl rfl ?_ ?_ ?_ ?_)
    | (refine gate 0 rfl ?_; refine op_storeD rfl rfl rfl rfl rfl rfl rfl rfl rfl rfl ?_)
    | (refine gate 3 rfl ?_; refine op_capN rfl rfl rfl rfl rfl ?_)
    | (refine gate 3 rfl ?_; refine op_copy rfl rfl rfl rfl rfl rfl rfl rfl rfl rfl rfl ?_)
    | (refine gate 8 rfl ?_; refine op_mkFn rfl rfl rfl rfl ?_)
    | (refine gate 7 rfl ?_; refine op_nil rfl rfl rfl rfl rfl rfl (fun b hb => ?_))
    | (refine inW ?_; first
      | refine W_seq ?_
      | refine W_region ?_
      | refine W_drawN (by decide +kernel) ?_
      | refine W_block ?_
      | refine W_skip ?_
      | refine W_exit ?_
      | refine W_ret ?_
      | refine W_condT rfl rfl ?_
      | refine W_condF rfl rfl ?_
      | (refine W_condB rfl ?_ ?_ <;> intro hq <;> try (exfalso; (simp_all) <;> omega)))
    | (refine inE ?_; first
      | refine end_d rfl rfl rfl rfl ?_ ?_
      | refine end_o rfl rfl rfl rfl ?_ ?_
      | refine end_of rfl rfl rfl ?_ ?_)
    | refine rsOne ?_
    | refine msPd rfl ?_
    | refine msPn ?_
    | refine msPo rfl ?_
    | refine And.intro ?_ ?_
    | (show List.length _ ≠ 1; simp)
    | (show (_ : Int) ≤ _; first | omega | (simp [IntKind.bits, dflt]; done) | (simp [IntKind.bits, dflt]; omega) | (simp at *; omega))
    | (show (_ : Int) < _; first | omega | (simp [IntKind.bits, dflt]; done) | (simp [IntKind.bits, dflt]; omega) | (simp at *; omega))
    | (show (_ : Nat) ≤ _; first | omega | (unfold maxLen; omega) | (simp [IntKind.bits, dflt]; done) | (simp [IntKind.bits, dflt]; omega) | (simp at *; omega))
    | rfl)
set_option maxHeartbeats 4000000 in
set_option maxRecDepth 20000 in
theorem drawed_ex (code : List UInt8) (hl : code.length ≤ 16777216) : ∃ r : List UInt8 × Ed, r.1.length ≤ 1001 ∧ r.2.2.2.length ≤ 1001 ∧ FnC Tryd.prog 24 [aBy code] [aX] (.tu [(false, [sBy r.1]), (true, [sI r.2.1, sI r.2.2.1, oBy r.2.2.2])]) := by
  have ho := open_ok code hl
  obtain ⟨p1, b1, n1, h1⟩ := text_ex code 0 _ 40 hl (open_b (n := code.length)) (by decide) (by decide)
  have c1 := n1.next (Int.le_refl _) (by decide)
  have e1 := n1.a1
  obtain ⟨p2, n2, h2⟩ := once_ex code p1.2.1 p1.2.2 12 hl c1 (by decide)
  have n12 := n1.trans n2
  have c2 := n12.next (Int.le_refl _) (by decide)
  have e2 := n12.a1
  cases hb : p2.1 with
  | true =>
    rw [hb] at h2
    obtain ⟨p3, b3, n3, h3⟩ := badtext_ex code p2.2.1 p2.2.2 40 hl c2 (by omega) (by decide)
    have n13 := n12.trans n3
    have c3 := n13.next (Int.le_refl _) (by decide)
    have e3 := n13.a1
    obtain ⟨p4, b4, n4, h4⟩ := edit_ex code p3.2.1 p3.2.2 p1.1 hl c3 (by omega) (by omega)
    refine ⟨(p3.1, p4.1), b3, by simp only; omega, ?_⟩
    refine FnC_of (fn := Tryd.f24) Tryd.func24 rfl rfl rfl ?_
    repeat' (first
      | exact trivial
      | (refine inWO ?_; first
        | refine WO_runE (nw := true) rfl rfl ?_ ?_
        | refine WO_runG (nw := true) rfl rfl rfl rfl rfl ?_ ?_
        | refine WO_runU (nw := true) rfl rfl rfl rfl rfl ?_ ?_
        | refine WO_run1 (nw := true) rfl rfl ?_ ?_
        | refine WO_cons rfl ?_
        | refine WO_gT rfl rfl rfl rfl rfl ?_
        | (refine WO_split rfl rfl rfl rfl ?_ ?_ <;> intro hq <;> try (exfalso; (simp_all) <;> omega))
        | refine WO_nil ?_)
      | (refine inRW ?_; first
        | refine RW_runE (nw := true) rfl rfl (fun _ _ => rfl) rfl ?_ ?_
        | refine RW_runG (nw := true) rfl rfl rfl rfl rfl (fun _ _ => rfl) rfl ?_ ?_
        | refine RW_runU (nw := true) rfl rfl rfl rfl rfl (fun _ _ => rfl) rfl ?_ ?_
        | refine RW_op (us := ?_) (ub := ?_) (fp := ?_) rfl (fun s0 b0 => ?_) ?_ ?_
        | refine RW_opT (us := ?_) (ub := ?_) (fp := ?_) rfl rfl rfl rfl (fun s0 b0 => ?_) ?_ ?_
        | (refine RW_split rfl rfl rfl ?_ ?_ <;> intro hq <;> try (exfalso; (simp_all) <;> omega))
        | refine RW_nil ?_ (by first | decide +kernel | kernel_rfl))
      | (refine gate 1 rfl ?_; first
        | refine op_callBx (ho) rfl rfl rfl rfl (by (repeat' (first | exact trivial | refine And.intro ?_ ?_ | rfl)); done) rfl ?_
        | refine callB (h1) rfl rfl rfl rfl rfl rfl rfl rfl rfl ⟨rfl, trivial⟩ ⟨rfl, rfl, rfl, trivial⟩ rfl rfl rfl rfl rfl rfl rfl rfl ?_
        | refine callB (h2) rfl rfl rfl rfl rfl rfl rfl rfl rfl ⟨rfl, trivial⟩ ⟨rfl, rfl, rfl, trivial⟩ rfl rfl rfl rfl rfl rfl rfl rfl ?_
        | refine callB (h3) rfl rfl rfl rfl rfl rfl rfl rfl rfl ⟨rfl, trivial⟩ ⟨rfl, rfl, rfl, trivial⟩ rfl rfl rfl rfl rfl rfl rfl rfl ?_)
      | (refine gate 5 rfl ?_; first
        | refine litR rfl rfl rfl rfl rfl rfl rfl rfl ?_
        | refine litW rfl rfl rfl rfl rfl rfl ?_)
      | (refine gate 2 rfl ?_; first
        | refine apOS rfl rfl rfl rfl rfl rfl rfl rfl rfl rfl rfl ?_ ?_ ?_
        | refine apOL rfl rfl rfl rfl rfl rfl rfl rfl rfl rfl rfl rfl ?_ ?_ ?_
        | refine apNS rfl rfl rfl rfl rfl rfl rfl rfl rfl rfl rfl ?_ ?_ ?_
        | refine apNL rfl rfl rfl rfl rfl rfl rfl rfl rfl rfl rfl rfl ?_ ?_ ?_
        | refine apDO rfl rfl rfl rfl rfl rfl rfl rfl rfl rfl rfl rfl rfl rfl ?_ ?_ ?_
        | refine apDN rfl rfl rfl rfl rfl rfl rfl rfl rfl rfl rfl rfl rfl rfl ?_ ?_ ?_
        | refine op_apMk _ rfl rfl rfl rfl rfl rfl rfl rfl rfl rfl rfl rfl rfl ?_ ?_ ?_ ?_
        | refine apDS rfl rfl rfl rfl rfl rfl rfl rfl rfl rfl rfl ?_ ?_ ?_)
      | (refine gate 6 rfl ?_; refine mkS rfl rfl rfl rfl rfl rfl rfl rfl rfl rfl rfl rfl rfl ?_ ?_ ?_ ?_)
      | (refine gate 6 rfl ?_; refine op_makeD _ rfl rfl rfl rfl rfl rfl rfl rfl rfl rfl rfl rfl rfl ?_ ?_ ?_ ?_)
      | (refine gate 0 rfl ?_; refine op_storeD rfl rfl rfl rfl rfl rfl rfl rfl rfl rfl ?_)
      | (refine gate 3 rfl ?_; refine op_capN rfl rfl rfl rfl rfl ?_)
      | (refine gate 3 rfl ?_; refine op_copy rfl rfl rfl rfl rfl rfl rfl rfl rfl rfl rfl ?_)
      | (refine gate 8 rfl ?_; refine op_mkFn rfl rfl rfl rfl ?_)
      | (refine gate 7 rfl ?_; refine op_nil rfl rfl rfl rfl rfl rfl (fun b hb => ?_))
      | (refine inW ?_; first
        | refine W_seq ?_
        | refine W_region ?_
        | refine W_drawN (by decide +kernel) ?_
        | refine W_block ?_
        | refine W_skip ?_
        | refine W_exit ?_
        | refine W_ret ?_
        | refine W_condT rfl rfl ?_
        | refine W_condF rfl rfl ?_
        | (refine W_condB rfl ?_ ?_ <;> intro hq <;> try (exfalso; (simp_all) <;> omega)))
      | (refine inE ?_; first
        | refine end_d rfl rfl rfl rfl ?_ ?_
        | refine end_o rfl rfl rfl rfl ?_ ?_
        | refine end_of rfl rfl rfl ?_ ?_)
      | refine rsOne ?_
      | refine msPd rfl ?_
      | refine msPn ?_
      | refine msPo rfl ?_
      | refine And.intro ?_ ?_
      | (show List.length _ ≠ 1; simp)
      | (show (_ : Int) ≤ _; first | omega | (simp [IntKind.bits, dflt]; done) | (simp [IntKind.bits, dflt]; omega) | (simp at *; omega))
      | (show (_ : Int) < _; first | omega | (simp [IntKind.bits, dflt]; done) | (simp [IntKind.bits, dflt]; omega) | (simp at *; omega))
      | (show (_ : Nat) ≤ _; first | omega | (unfold maxLen; omega) | (simp [IntKind.bits, dflt]; done) | (simp [IntKind.bits, dflt]; omega) | (simp at *; omega))
      | rfl)
    refine OpW_weak (Wk_freeze (o := 10000) rfl) ?_
    refine OpW_weak (Wk_freeze (o := 14000) rfl) ?_
    repeat' (first
      | exact trivial
      | (refine inWO ?_; first
        | refine WO_runE (nw := true) rfl rfl ?_ ?_
        | refine WO_runG (nw := true) rfl rfl rfl rfl rfl ?_ ?_
        | refine WO_runU (nw := true) rfl rfl rfl rfl rfl ?_ ?_
        | refine WO_run1 (nw := true) rfl rfl ?_ ?_
        | refine WO_cons rfl ?_
        | refine WO_gT rfl rfl rfl rfl rfl ?_
        | (refine WO_split rfl rfl rfl rfl ?_ ?_ <;> intro hq <;> try (exfalso; (simp_all) <;> omega))
        | refine WO_nil ?_)
      | (refine inRW ?_; first
        | refine RW_runE (nw := true) rfl rfl (fun _ _ => rfl) rfl ?_ ?_
        | refine RW_runG (nw := true) rfl rfl rfl rfl rfl (fun _ _ => rfl) rfl ?_ ?_
        | refine RW_runU (nw := true) rfl rfl rfl rfl rfl (fun _ _ => rfl) rfl ?_ ?_
        | refine RW_op (us := ?_) (ub := ?_) (fp := ?_) rfl (fun s0 b0 => ?_) ?_ ?_
        | refine RW_opT (us := ?_) (ub := ?_) (fp := ?_) rfl rfl rfl rfl (fun s0 b0 => ?_) ?_ ?_
        | (refine RW_split rfl rfl rfl ?_ ?_ <;> intro hq <;> try (exfalso; (simp_all) <;> omega))
        | refine RW_nil ?_ (by first | decide +kernel | kernel_rfl))
      | (refine gate 1 rfl ?_; first
        | refine callB (h4) rfl rfl rfl rfl rfl rfl rfl rfl rfl ⟨rfl, trivial⟩ ⟨rfl, rfl, rfl, trivial⟩ rfl rfl rfl rfl rfl rfl rfl rfl ?_)
      | (refine gate 5 rfl ?_; first
        | refine litR rfl rfl rfl rfl rfl rfl rfl rfl ?_
        | refine litW rfl rfl rfl rfl rfl rfl ?_)
      | (refine gate 2 rfl ?_; first
        | refine apOS rfl rfl rfl rfl rfl rfl rfl rfl rfl rfl rfl ?_ ?_ ?_
        | refine apOL rfl rfl rfl rfl rfl rfl rfl rfl rfl rfl rfl rfl ?_ ?_ ?_
        | refine apNS rfl rfl rfl rfl rfl rfl rfl rfl rfl rfl rfl ?_ ?_ ?_
        | refine apNL rfl rfl rfl rfl rfl rfl rfl rfl rfl rfl rfl rfl ?_ ?_ ?_
        | refine apDO rfl rfl rfl rfl rfl rfl rfl rfl rfl rfl rfl rfl rfl rfl ?_ ?_ ?_
        | refine apDN rfl rfl rfl rfl rfl rfl rfl rfl rfl rfl rfl rfl rfl rfl ?_ ?_ ?_
        | refine op_apMk _ rfl rfl rfl rfl rfl rfl rfl rfl rfl rfl rfl rfl rfl ?_ ?_ ?_ ?_
        | refine apDS rfl rfl rfl rfl rfl rfl rfl rfl rfl rfl rfl ?_ ?_ ?_)
      | (refine gate 6 rfl ?_; refine mkS rfl rfl rfl rfl rfl rfl rfl rfl rfl rfl rfl rfl rfl ?_ ?_ ?_ ?_)
      | (refine gate 6 rfl ?_; refine op_makeD _ rfl rfl rfl rfl rfl rfl rfl rfl rfl rfl rfl rfl rfl ?_ ?_ ?_ ?_)
      | (refine gate 0 rfl ?_; refine op_storeD rfl rfl rfl rfl rfl rfl rfl rfl rfl rfl ?_)
      | (refine gate 3 rfl ?_; refine op_capN rfl rfl rfl rfl rfl ?_)
      | (refine gate 3 rfl ?_; refine op_copy rfl rfl rfl rfl rfl rfl rfl rfl rfl rfl rfl ?_)
      | (refine gate 8 rfl ?_; refine op_mkFn rfl rfl rfl rfl ?_)
      | (refine gate 7 rfl ?_; refine op_nil rfl rfl rfl rfl rfl rfl (fun b hb => ?_))
      | (refine inW ?_; first
        | refine W_seq ?_
        | refine W_region ?_
        | refine W_drawN (by decide +kernel) ?_
        | refine W_block ?_
        | refine W_skip ?_
        | refine W_exit ?_
        | refine W_ret ?_
        | refine W_condT rfl rfl ?_
        | refine W_condF rfl rfl ?_
        | (refine W_condB rfl ?_ ?_ <;> intro hq <;> try (exfalso; (simp_all) <;> omega)))
      | (refine inE ?_; first
        | refine end_d rfl rfl rfl rfl ?_ ?_
        | refine end_o rfl rfl rfl rfl ?_ ?_
        | refine end_of rfl rfl rfl ?_ ?_)
      | refine rsOne ?_
      | refine msPd rfl ?_
      | refine msPn ?_
      | refine msPo rfl ?_
      | refine And.intro ?_ ?_
      | (show List.length _ ≠ 1; simp)
      | (show (_ : Int) ≤ _; first | omega | (simp [IntKind.bits, dflt]; done) | (simp [IntKind.bits, dflt]; omega) | (simp at *; omega))
      | (show (_ : Int) < _; first | omega | (simp [IntKind.bits, dflt]; done) | (simp [IntKind.bits, dflt]; omega) | (simp at *; omega))
      | (show (_ : Nat) ≤ _; first | omega | (unfold maxLen; omega) | (simp [IntKind.bits, dflt]; done) | (simp [IntKind.bits, dflt]; omega) | (simp at *; omega))
      | rfl)
  | false =>
    rw [hb] at h2
    obtain ⟨p3, b3, n3, h3⟩ := badedit_ex code p2.2.1 p2.2.2 p1.1 hl c2 (by omega) (by omega)
    refine ⟨(p1.1, p3.1), by simp only; omega, b3, ?_⟩
    refine FnC_of (fn := Tryd.f24) Tryd.func24 rfl rfl rfl ?_
    repeat' (first
      | exact trivial
      | (refine inWO ?_; first
        | refine WO_runE (nw := true) rfl rfl ?_ ?_
        | refine WO_runG (nw := true) rfl rfl rfl rfl rfl ?_ ?_
        | refine WO_runU (nw := true) rfl rfl rfl rfl rfl ?_ ?_
        | refine WO_run1 (nw := true) rfl rfl ?_ ?_
        | refine WO_cons rfl ?_
        | refine WO_gT rfl rfl rfl rfl rfl ?_
        | (refine WO_split rfl rfl rfl rfl ?_ ?_ <;> intro hq <;> try (exfalso; (simp_all) <;> omega))
        | refine WO_nil ?_)
      | (refine inRW ?_; first
        | refine RW_runE (nw := true) rfl rfl (fun _ _ => rfl) rfl ?_ ?_
        | refine RW_runG (nw := true) rfl rfl rfl rfl rfl (fun _ _ => rfl) rfl ?_ ?_
        | refine RW_runU (nw := true) rfl rfl rfl rfl rfl (fun _ _ => rfl) rfl ?_ ?_
        | refine RW_op (us := ?_) (ub := ?_) (fp := ?_) rfl (fun s0 b0 => ?_) ?_ ?_
        | refine RW_opT (us := ?_) (ub := ?_) (fp := ?_) rfl rfl rfl rfl (fun s0 b0 => ?_) ?_ ?_
        | (refine RW_split rfl rfl rfl ?_ ?_ <;> intro hq <;> try (exfalso; (simp_all) <;> omega))
        | refine RW_nil ?_ (by first | decide +kernel | kernel_rfl))
      | (refine gate 1 rfl ?_; first
        | refine op_callBx (ho) rfl rfl rfl rfl (by (repeat' (first | exact trivial | refine And.intro ?_ ?_ | rfl)); done) rfl ?_
        | refine callB (h1) rfl rfl rfl rfl rfl rfl rfl rfl rfl ⟨rfl, trivial⟩ ⟨rfl, rfl, rfl, trivial⟩ rfl rfl rfl rfl rfl rfl rfl rfl ?_
        | refine callB (h2) rfl rfl rfl rfl rfl rfl rfl rfl rfl ⟨rfl, trivial⟩ ⟨rfl, rfl, rfl, trivial⟩ rfl rfl rfl rfl rfl rfl rfl rfl ?_)
      | (refine gate 5 rfl ?_; first
        | refine litR rfl rfl rfl rfl rfl rfl rfl rfl ?_
        | refine litW rfl rfl rfl rfl rfl rfl ?_)
      | (refine gate 2 rfl ?_; first
        | refine apOS rfl rfl rfl rfl rfl rfl rfl rfl rfl rfl rfl ?_ ?_ ?_
        | refine apOL rfl rfl rfl rfl rfl rfl rfl rfl rfl rfl rfl rfl ?_ ?_ ?_
        | refine apNS rfl rfl rfl rfl rfl rfl rfl rfl rfl rfl rfl ?_ ?_ ?_
        | refine apNL rfl rfl rfl rfl rfl rfl rfl rfl rfl rfl rfl rfl ?_ ?_ ?_
        | refine apDO rfl rfl rfl rfl rfl rfl rfl rfl rfl rfl rfl rfl rfl rfl ?_ ?_ ?_
        | refine apDN rfl rfl rfl rfl rfl rfl rfl rfl rfl rfl rfl rfl rfl rfl ?_ ?_ ?_
        | refine op_apMk _ rfl rfl rfl rfl rfl rfl rfl rfl rfl rfl rfl rfl rfl ?_ ?_ ?_ ?_
        | refine apDS rfl rfl rfl rfl rfl rfl rfl rfl rfl rfl rfl ?_ ?_ ?_)
      | (refine gate 6 rfl ?_; refine mkS rfl rfl rfl rfl rfl rfl rfl rfl rfl rfl rfl rfl rfl ?_ ?_ ?_ ?_)
      | (refine gate 6 rfl ?_; refine op_makeD _ rfl rfl rfl rfl rfl rfl rfl rfl rfl rfl rfl rfl rfl ?_ ?_ ?_ ?_)
      | (refine gate 0 rfl ?_; refine op_storeD rfl rfl rfl rfl rfl rfl rfl rfl rfl rfl ?_)
      | (refine gate 3 rfl ?_; refine op_capN rfl rfl rfl rfl rfl ?_)
      | (refine gate 3 rfl ?_; refine op_copy rfl rfl rfl rfl rfl rfl rfl rfl rfl rfl rfl ?_)
      | (refine gate 8 rfl ?_; refine op_mkFn rfl rfl rfl rfl ?_)
      | (refine gate 7 rfl ?_; refine op_nil rfl rfl rfl rfl rfl rfl (fun b hb => ?_))
      | (refine inW ?_; first
        | refine W_seq ?_
        | refine W_region ?_
        | refine W_drawN (by decide +kernel) ?_
        | refine W_block ?_
        | refine W_skip ?_
        | refine W_exit ?_
        | refine W_ret ?_
        | refine W_condT rfl rfl ?_
        | refine W_condF rfl rfl ?_
        | (refine W_condB rfl ?_ ?_ <;> intro hq <;> try (exfalso; (simp_all) <;> omega)))
      | (refine inE ?_; first
        | refine end_d rfl rfl rfl rfl ?_ ?_
        | refine end_o rfl rfl rfl rfl ?_ ?_
        | refine end_of rfl rfl rfl ?_ ?_)
      | refine rsOne ?_
      | refine msPd rfl ?_
      | refine msPn ?_
      | refine msPo rfl ?_
      | refine And.intro ?_ ?_
      | (show List.length _ ≠ 1; simp)
      | (show (_ : Int) ≤ _; first | omega | (simp [IntKind.bits, dflt]; done) | (simp [IntKind.bits, dflt]; omega) | (simp at *; omega))
      | (show (_ : Int) < _; first | omega | (simp [IntKind.bits, dflt]; done) | (simp [IntKind.bits, dflt]; omega) | (simp at *; omega))
      | (show (_ : Nat) ≤ _; first | omega | (unfold maxLen; omega) | (simp [IntKind.bits, dflt]; done) | (simp [IntKind.bits, dflt]; omega) | (simp at *; omega))
      | rfl)
    refine OpW_weak (Wk_freeze (o := 10000) rfl) ?_
    repeat' (first
      | exact trivial
      | (refine inWO ?_; first
        | refine WO_runE (nw := true) rfl rfl ?_ ?_
        | refine WO_runG (nw := true) rfl rfl rfl rfl rfl ?_ ?_
        | refine WO_runU (nw := true) rfl rfl rfl rfl rfl ?_ ?_
        | refine WO_run1 (nw := true) rfl rfl ?_ ?_
        | refine WO_cons rfl ?_
        | refine WO_gT rfl rfl rfl rfl rfl ?_
        | (refine WO_split rfl rfl rfl rfl ?_ ?_ <;> intro hq <;> try (exfalso; (simp_all) <;> omega))
        | refine WO_nil ?_)
      | (refine inRW ?_; first
        | refine RW_runE (nw := true) rfl rfl (fun _ _ => rfl) rfl ?_ ?_
        | refine RW_runG (nw := true) rfl rfl rfl rfl rfl (fun _ _ => rfl) rfl ?_ ?_
        | refine RW_runU (nw := true) rfl rfl rfl rfl rfl (fun _ _ => rfl) rfl ?_ ?_
        | refine RW_op (us := ?_) (ub := ?_) (fp := ?_) rfl (fun s0 b0 => ?_) ?_ ?_
        | refine RW_opT (us := ?_) (ub := ?_) (fp := ?_) rfl rfl rfl rfl (fun s0 b0 => ?_) ?_ ?_
        | (refine RW_split rfl rfl rfl ?_ ?_ <;> intro hq <;> try (exfalso; (simp_all) <;> omega))
        | refine RW_nil ?_ (by first | decide +kernel | kernel_rfl))
      | (refine gate 1 rfl ?_; first
        | refine callB (h3) rfl rfl rfl rfl rfl rfl rfl rfl rfl ⟨rfl, trivial⟩ ⟨rfl, rfl, rfl, trivial⟩ rfl rfl rfl rfl rfl rfl rfl rfl ?_)
      | (refine gate 5 rfl ?_; first
        | refine litR rfl rfl rfl rfl rfl rfl rfl rfl ?_
        | refine litW rfl rfl rfl rfl rfl rfl ?_)
      | (refine gate 2 rfl ?_; first
        | refine apOS rfl rfl rfl rfl rfl rfl rfl rfl rfl rfl rfl ?_ ?_ ?_
        | refine apOL rfl rfl rfl rfl rfl rfl rfl rfl rfl rfl rfl rfl ?_ ?_ ?_
        | refine apNS rfl rfl rfl rfl rfl rfl rfl rfl rfl rfl rfl ?_ ?_ ?_
        | refine apNL rfl rfl rfl rfl rfl rfl rfl rfl rfl rfl rfl rfl ?_ ?_ ?_
        | refine apDO rfl rfl rfl rfl rfl rfl rfl rfl rfl rfl rfl rfl rfl rfl ?_ ?_ ?_
        | refine apDN rfl rfl rfl rfl rfl rfl rfl rfl rfl rfl rfl rfl rfl rfl ?_ ?_ ?_
        | refine op_apMk _ rfl rfl rfl rfl rfl rfl rfl rfl rfl rfl rfl rfl rfl ?_ ?_ ?_ ?_
        | refine apDS rfl rfl rfl rfl rfl rfl rfl rfl rfl rfl rfl ?_ ?_ ?_)
      | (refine gate 6 rfl ?_; refine mkS rfl rfl rfl rfl rfl rfl rfl rfl rfl rfl rfl rfl rfl ?_ ?_ ?_ ?_)
      | (refine gate 6 rfl ?_; refine op_makeD _ rfl rfl rfl rfl rfl rfl rfl rfl rfl rfl rfl rfl rfl ?_ ?_ ?_ ?_)
      | (refine gate 0 rfl ?_; refine op_storeD rfl rfl rfl rfl rfl rfl rfl rfl rfl rfl ?_)
      | (refine gate 3 rfl ?_; refine op_capN rfl rfl rfl rfl rfl ?_)
      | (refine gate 3 rfl ?_; refine op_copy rfl rfl rfl rfl rfl rfl rfl rfl rfl rfl rfl ?_)
      | (refine gate 8 rfl ?_; refine op_mkFn rfl rfl rfl rfl ?_)
      | (refine gate 7 rfl ?_; refine op_nil rfl rfl rfl rfl rfl rfl (fun b hb => ?_))
      | (refine inW ?_; first
        | refine W_seq ?_
        | refine W_region ?_
        | refine W_drawN (by decide +kernel) ?_
        | refine W_block ?_
        | refine W_skip ?_
        | refine W_exit ?_
        | refine W_ret ?_
        | refine W_condT rfl rfl ?_
        | refine W_condF rfl rfl ?_
        | (refine W_condB rfl ?_ ?_ <;> intro hq <;> try (exfalso; (simp_all) <;> omega)))
      | (refine inE ?_; first
        | refine end_d rfl rfl rfl rfl ?_ ?_
        | refine end_o rfl rfl rfl rfl ?_ ?_
        | refine end_of rfl rfl rfl ?_ ?_)
      | refine rsOne ?_
      | refine msPd rfl ?_
      | refine msPn ?_
      | refine msPo rfl ?_
      | refine And.intro ?_ ?_
      | (show List.length _ ≠ 1; simp)
      | (show (_ : Int) ≤ _; first | omega | (simp [IntKind.bits, dflt]; done) | (simp [IntKind.bits, dflt]; omega) | (simp at *; omega))
      | (show (_ : Int) < _; first | omega | (simp [IntKind.bits, dflt]; done) | (simp [IntKind.bits, dflt]; omega) | (simp at *; omega))
      | (show (_ : Nat) ≤ _; first | omega | (unfold maxLen; omega) | (simp [IntKind.bits, dflt]; done) | (simp [IntKind.bits, dflt]; omega) | (simp at *; omega))
      | rfl)
end Go.LX
