/- A part of the proof of the statement in the row text. -/
import Derived.Test.YtojaiockbpcilaaDoorLzE6
set_option linter.unusedVariables false
set_option linter.unusedSimpArgs false
namespace Go.LX
open Go.Proofs
attribute [local irreducible] W WO OpW RW EndQ
set_option maxHeartbeats 4000000 in
set_option maxRecDepth 20000 in
theorem edit_ex (code : List UInt8) (a s : Int) (t : List UInt8) (hl : code.length ≤ 16777216) (hc : CuB a s) (ha : a ≤ 600000000) (ht : t.length ≤ 16777200) : ∃ r : Ed × Int × Int, r.1.2.2.length ≤ 6 ∧ CuN a s r.2.1 r.2.2 50 ∧ FnC Tryd.prog 48 [aCur code a s, aBy t] [aCur code r.2.1 r.2.2, aX] (.ag [sI r.1.1, sI r.1.2.1, oBy r.1.2.2]) := by
  have hn : (chunksM t).length ≤ 16777216 := Nat.le_trans chunksM_len (by omega)
  have hm : ∀ d ∈ chunksM t, d.length ≤ 16777216 := fun d h => Nat.le_trans (chunksM_mem d h) (by omega)
  have hro := ropeof_ok t (by omega)
  obtain ⟨p1, n1, h1⟩ := span_ex code a s (chunksM t) hl hc (by omega) hn hm
  have c1 := n1.next hc.a0 (by omega)
  have e1 := n1.a1
  obtain ⟨p2, n2, h2⟩ := once_ex code p1.2.1 p1.2.2 2 hl c1 (by decide)
  have n12 := n1.trans n2
  have c2 := n12.next hc.a0 (by omega)
  have e2 := n12.a1
  cases hb2 : p2.1 with
  | true =>
    rw [hb2] at h2
    obtain ⟨p3, n3, h3⟩ := once_ex code p2.2.1 p2.2.2 3 hl ((n12).next hc.a0 (by omega)) (by decide)
    have n13 := (n12).trans n3
    have c3 := n13.next hc.a0 (by omega)
    have e3 := n13.a1
    obtain ⟨p4, b4, n4, h4⟩ := text_ex code p3.2.1 p3.2.2 6 hl c3 (by omega) (by decide)
    have n14 := n13.trans n4
    cases hb3 : p3.1 with
    | true =>
      rw [hb3] at h3
      refine ⟨((p1.1.1, 0, []), p3.2), by simp, n13.mono (by decide), ?_⟩
      refine FnC_of (fn := Tryd.f48) Tryd.func48 rfl rfl rfl ?_
      repeat' (first
        | exact trivial
        | (refine inWO ?_; first
          | refine WO_runE (nw := false) rfl rfl ?_ ?_
          | refine WO_runG (nw := false) rfl rfl rfl rfl rfl ?_ ?_
          | refine WO_runU (nw := false) rfl rfl rfl rfl rfl ?_ ?_
          | refine WO_run1 (nw := false) rfl rfl ?_ ?_
          | refine WO_cons rfl ?_
          | refine WO_gT rfl rfl rfl rfl rfl ?_
          | (refine WO_split rfl rfl rfl rfl ?_ ?_ <;> intro hq <;> try (exfalso; (simp_all) <;> omega))
          | refine WO_nil ?_)
        | (refine inRW ?_; first
          | refine RW_runE (nw := false) rfl rfl (fun _ _ => rfl) rfl ?_ ?_
          | refine RW_runG (nw := false) rfl rfl rfl rfl rfl (fun _ _ => rfl) rfl ?_ ?_
          | refine RW_runU (nw := false) rfl rfl rfl rfl rfl (fun _ _ => rfl) rfl ?_ ?_
          | refine RW_op (us := ?_) (ub := ?_) (fp := ?_) rfl (fun s0 b0 => ?_) ?_ ?_
          | refine RW_opT (us := ?_) (ub := ?_) (fp := ?_) rfl rfl rfl rfl (fun s0 b0 => ?_) ?_ ?_
          | (refine RW_split rfl rfl rfl ?_ ?_ <;> intro hq <;> try (exfalso; (simp_all) <;> omega))
          | refine RW_nil ?_ (by first | decide +kernel | kernel_rfl))
        | (refine gate 1 rfl ?_; first
          | refine callD false (hro) rfl rfl rfl rfl (by (repeat' (first | exact trivial | refine And.intro ?_ ?_ | rfl)); done) rfl rfl ?_)
        | (refine gate 5 rfl ?_; first
          | refine litR rfl rfl rfl rfl rfl rfl rfl rfl ?_
          | refine litW rfl rfl rfl rfl rfl rfl ?_)
        | (refine gate 0 rfl ?_; refine op_storeD rfl rfl rfl rfl rfl rfl rfl rfl rfl rfl ?_)
        | (refine gate 8 rfl ?_; refine op_mkFn rfl rfl rfl rfl ?_)
        | (refine gate 7 rfl ?_; refine op_nil rfl rfl rfl rfl rfl rfl (fun b hb => ?_))
        | (refine inW ?_; first
          | refine W_seq ?_
          | refine W_region ?_
          | refine W_drawN (by decide +kernel) ?_
          | refine W_block ?_
          | refine W_skip ?_
          | refine W_exit ?_
          | refine W_ret ?_
          | refine W_condT rfl rfl ?_
          | refine W_condF rfl rfl ?_
          | (refine W_condB rfl ?_ ?_ <;> intro hq <;> try (exfalso; (simp_all) <;> omega)))
        | (refine inE ?_; first
          | refine end_d rfl rfl rfl rfl ?_ ?_
          | refine end_o rfl rfl rfl rfl ?_ ?_
          | refine end_of rfl rfl rfl ?_ ?_)
        | refine rsOne ?_
        | refine msPd rfl ?_
        | refine msPn ?_
        | refine msPo rfl ?_
        | refine And.intro ?_ ?_
        | (show List.length _ ≠ 1; simp)
        | (show (_ : Int) ≤ _; first | omega | (simp [IntKind.bits, dflt] <;> omega) | (simp at *; omega))
        | (show (_ : Int) < _; first | omega | (simp [IntKind.bits, dflt] <;> omega) | (simp at *; omega))
        | (show (_ : Nat) ≤ _; first | omega | (unfold maxLen; omega) | (simp [IntKind.bits, dflt] <;> omega) | (simp at *; omega))
        | rfl)
      refine OpW_weak (Wk_freeze (o := 13000) rfl) ?_
      repeat' (first
        | exact trivial
        | (refine inWO ?_; first
          | refine WO_runE (nw := false) rfl rfl ?_ ?_
          | refine WO_runG (nw := false) rfl rfl rfl rfl rfl ?_ ?_
          | refine WO_runU (nw := false) rfl rfl rfl rfl rfl ?_ ?_
          | refine WO_run1 (nw := false) rfl rfl ?_ ?_
          | refine WO_cons rfl ?_
          | refine WO_gT rfl rfl rfl rfl rfl ?_
          | (refine WO_split rfl rfl rfl rfl ?_ ?_ <;> intro hq <;> try (exfalso; (simp_all) <;> omega))
          | refine WO_nil ?_)
        | (refine inRW ?_; first
          | refine RW_runE (nw := false) rfl rfl (fun _ _ => rfl) rfl ?_ ?_
          | refine RW_runG (nw := false) rfl rfl rfl rfl rfl (fun _ _ => rfl) rfl ?_ ?_
          | refine RW_runU (nw := false) rfl rfl rfl rfl rfl (fun _ _ => rfl) rfl ?_ ?_
          | refine RW_op (us := ?_) (ub := ?_) (fp := ?_) rfl (fun s0 b0 => ?_) ?_ ?_
          | refine RW_opT (us := ?_) (ub := ?_) (fp := ?_) rfl rfl rfl rfl (fun s0 b0 => ?_) ?_ ?_
          | (refine RW_split rfl rfl rfl ?_ ?_ <;> intro hq <;> try (exfalso; (simp_all) <;> omega))
          | refine RW_nil ?_ (by first | decide +kernel | kernel_rfl))
        | (refine gate 1 rfl ?_; first
          | refine callB (h1) rfl rfl rfl rfl rfl rfl rfl rfl rfl ⟨⟨rfl, trivial⟩, trivial⟩ ⟨rfl, rfl, rfl, trivial⟩ rfl rfl rfl rfl rfl rfl rfl rfl ?_
          | refine callB (h2) rfl rfl rfl rfl rfl rfl rfl rfl rfl ⟨rfl, trivial⟩ ⟨rfl, rfl, rfl, trivial⟩ rfl rfl rfl rfl rfl rfl rfl rfl ?_
          | refine callB (h3) rfl rfl rfl rfl rfl rfl rfl rfl rfl ⟨rfl, trivial⟩ ⟨rfl, rfl, rfl, trivial⟩ rfl rfl rfl rfl rfl rfl rfl rfl ?_)
        | (refine gate 5 rfl ?_; first
          | refine litR rfl rfl rfl rfl rfl rfl rfl rfl ?_
          | refine litW rfl rfl rfl rfl rfl rfl ?_)
        | (refine gate 0 rfl ?_; refine op_storeD rfl rfl rfl rfl rfl rfl rfl rfl rfl rfl ?_)
        | (refine gate 8 rfl ?_; refine op_mkFn rfl rfl rfl rfl ?_)
        | (refine gate 7 rfl ?_; refine op_nil rfl rfl rfl rfl rfl rfl (fun b hb => ?_))
        | (refine inW ?_; first
          | refine W_seq ?_
          | refine W_region ?_
          | refine W_drawN (by decide +kernel) ?_
          | refine W_block ?_
          | refine W_skip ?_
          | refine W_exit ?_
          | refine W_ret ?_
          | refine W_condT rfl rfl ?_
          | refine W_condF rfl rfl ?_
          | (refine W_condB rfl ?_ ?_ <;> intro hq <;> try (exfalso; (simp_all) <;> omega)))
        | (refine inE ?_; first
          | refine end_d rfl rfl rfl rfl ?_ ?_
          | refine end_o rfl rfl rfl rfl ?_ ?_
          | refine end_of rfl rfl rfl ?_ ?_)
        | refine rsOne ?_
        | refine msPd rfl ?_
        | refine msPn ?_
        | refine msPo rfl ?_
        | refine And.intro ?_ ?_
        | (show List.length _ ≠ 1; simp)
        | (show (_ : Int) ≤ _; first | omega | (simp [IntKind.bits, dflt] <;> omega) | (simp at *; omega))
        | (show (_ : Int) < _; first | omega | (simp [IntKind.bits, dflt] <;> omega) | (simp at *; omega))
        | (show (_ : Nat) ≤ _; first | omega | (unfold maxLen; omega) | (simp [IntKind.bits, dflt] <;> omega) | (simp at *; omega))
        | rfl)
    | false =>
      rw [hb3] at h3
      refine ⟨((p1.1.1, 0, p4.1), p4.2), by simp only; omega, n14.mono (by decide), ?_⟩
      refine FnC_of (fn := Tryd.f48) Tryd.func48 rfl rfl rfl ?_
      repeat' (first
        | exact trivial
        | (refine inWO ?_; first
          | refine WO_runE (nw := false) rfl rfl ?_ ?_
          | refine WO_runG (nw := false) rfl rfl rfl rfl rfl ?_ ?_
          | refine WO_runU (nw := false) rfl rfl rfl rfl rfl ?_ ?_
          | refine WO_run1 (nw := false) rfl rfl ?_ ?_
          | refine WO_cons rfl ?_
          | refine WO_gT rfl rfl rfl rfl rfl ?_
          | (refine WO_split rfl rfl rfl rfl ?_ ?_ <;> intro hq <;> try (exfalso; (simp_all) <;> omega))
          | refine WO_nil ?_)
        | (refine inRW ?_; first
          | refine RW_runE (nw := false) rfl rfl (fun _ _ => rfl) rfl ?_ ?_
          | refine RW_runG (nw := false) rfl rfl rfl rfl rfl (fun _ _ => rfl) rfl ?_ ?_
          | refine RW_runU (nw := false) rfl rfl rfl rfl rfl (fun _ _ => rfl) rfl ?_ ?_
          | refine RW_op (us := ?_) (ub := ?_) (fp := ?_) rfl (fun s0 b0 => ?_) ?_ ?_
          | refine RW_opT (us := ?_) (ub := ?_) (fp := ?_) rfl rfl rfl rfl (fun s0 b0 => ?_) ?_ ?_
          | (refine RW_split rfl rfl rfl ?_ ?_ <;> intro hq <;> try (exfalso; (simp_all) <;> omega))
          | refine RW_nil ?_ (by first | decide +kernel | kernel_rfl))
        | (refine gate 1 rfl ?_; first
          | refine callD false (hro) rfl rfl rfl rfl (by (repeat' (first | exact trivial | refine And.intro ?_ ?_ | rfl)); done) rfl rfl ?_)
        | (refine gate 5 rfl ?_; first
          | refine litR rfl rfl rfl rfl rfl rfl rfl rfl ?_
          | refine litW rfl rfl rfl rfl rfl rfl ?_)
        | (refine gate 0 rfl ?_; refine op_storeD rfl rfl rfl rfl rfl rfl rfl rfl rfl rfl ?_)
        | (refine gate 8 rfl ?_; refine op_mkFn rfl rfl rfl rfl ?_)
        | (refine gate 7 rfl ?_; refine op_nil rfl rfl rfl rfl rfl rfl (fun b hb => ?_))
        | (refine inW ?_; first
          | refine W_seq ?_
          | refine W_region ?_
          | refine W_drawN (by decide +kernel) ?_
          | refine W_block ?_
          | refine W_skip ?_
          | refine W_exit ?_
          | refine W_ret ?_
          | refine W_condT rfl rfl ?_
          | refine W_condF rfl rfl ?_
          | (refine W_condB rfl ?_ ?_ <;> intro hq <;> try (exfalso; (simp_all) <;> omega)))
        | (refine inE ?_; first
          | refine end_d rfl rfl rfl rfl ?_ ?_
          | refine end_o rfl rfl rfl rfl ?_ ?_
          | refine end_of rfl rfl rfl ?_ ?_)
        | refine rsOne ?_
        | refine msPd rfl ?_
        | refine msPn ?_
        | refine msPo rfl ?_
        | refine And.intro ?_ ?_
        | (show List.length _ ≠ 1; simp)
        | (show (_ : Int) ≤ _; first | omega | (simp [IntKind.bits, dflt] <;> omega) | (simp at *; omega))
        | (show (_ : Int) < _; first | omega | (simp [IntKind.bits, dflt] <;> omega) | (simp at *; omega))
        | (show (_ : Nat) ≤ _; first | omega | (unfold maxLen; omega) | (simp [IntKind.bits, dflt] <;> omega) | (simp at *; omega))
        | rfl)
      refine OpW_weak (Wk_freeze (o := 13000) rfl) ?_
      repeat' (first
        | exact trivial
        | (refine inWO ?_; first
          | refine WO_runE (nw := false) rfl rfl ?_ ?_
          | refine WO_runG (nw := false) rfl rfl rfl rfl rfl ?_ ?_
          | refine WO_runU (nw := false) rfl rfl rfl rfl rfl ?_ ?_
          | refine WO_run1 (nw := false) rfl rfl ?_ ?_
          | refine WO_cons rfl ?_
          | refine WO_gT rfl rfl rfl rfl rfl ?_
          | (refine WO_split rfl rfl rfl rfl ?_ ?_ <;> intro hq <;> try (exfalso; (simp_all) <;> omega))
          | refine WO_nil ?_)
        | (refine inRW ?_; first
          | refine RW_runE (nw := false) rfl rfl (fun _ _ => rfl) rfl ?_ ?_
          | refine RW_runG (nw := false) rfl rfl rfl rfl rfl (fun _ _ => rfl) rfl ?_ ?_
          | refine RW_runU (nw := false) rfl rfl rfl rfl rfl (fun _ _ => rfl) rfl ?_ ?_
          | refine RW_op (us := ?_) (ub := ?_) (fp := ?_) rfl (fun s0 b0 => ?_) ?_ ?_
          | refine RW_opT (us := ?_) (ub := ?_) (fp := ?_) rfl rfl rfl rfl (fun s0 b0 => ?_) ?_ ?_
          | (refine RW_split rfl rfl rfl ?_ ?_ <;> intro hq <;> try (exfalso; (simp_all) <;> omega))
          | refine RW_nil ?_ (by first | decide +kernel | kernel_rfl))
        | (refine gate 1 rfl ?_; first
          | refine callB (h1) rfl rfl rfl rfl rfl rfl rfl rfl rfl ⟨⟨rfl, trivial⟩, trivial⟩ ⟨rfl, rfl, rfl, trivial⟩ rfl rfl rfl rfl rfl rfl rfl rfl ?_
          | refine callB (h2) rfl rfl rfl rfl rfl rfl rfl rfl rfl ⟨rfl, trivial⟩ ⟨rfl, rfl, rfl, trivial⟩ rfl rfl rfl rfl rfl rfl rfl rfl ?_
          | refine callB (h3) rfl rfl rfl rfl rfl rfl rfl rfl rfl ⟨rfl, trivial⟩ ⟨rfl, rfl, rfl, trivial⟩ rfl rfl rfl rfl rfl rfl rfl rfl ?_
          | refine callB (h4) rfl rfl rfl rfl rfl rfl rfl rfl rfl ⟨rfl, trivial⟩ ⟨rfl, rfl, rfl, trivial⟩ rfl rfl rfl rfl rfl rfl rfl rfl ?_)
        | (refine gate 5 rfl ?_; first
          | refine litR rfl rfl rfl rfl rfl rfl rfl rfl ?_
          | refine litW rfl rfl rfl rfl rfl rfl ?_)
        | (refine gate 0 rfl ?_; refine op_storeD rfl rfl rfl rfl rfl rfl rfl rfl rfl rfl ?_)
        | (refine gate 8 rfl ?_; refine op_mkFn rfl rfl rfl rfl ?_)
        | (refine gate 7 rfl ?_; refine op_nil rfl rfl rfl rfl rfl rfl (fun b hb => ?_))
        | (refine inW ?_; first
          | refine W_seq ?_
          | refine W_region ?_
          | refine W_drawN (by decide +kernel) ?_
          | refine W_block ?_
          | refine W_skip ?_
          | refine W_exit ?_
          | refine W_ret ?_
          | refine W_condT rfl rfl ?_
          | refine W_condF rfl rfl ?_
          | (refine W_condB rfl ?_ ?_ <;> intro hq <;> try (exfalso; (simp_all) <;> omega)))
        | (refine inE ?_; first
          | refine end_d rfl rfl rfl rfl ?_ ?_
          | refine end_o rfl rfl rfl rfl ?_ ?_
          | refine end_of rfl rfl rfl ?_ ?_)
        | refine rsOne ?_
        | refine msPd rfl ?_
        | refine msPn ?_
        | refine msPo rfl ?_
        | refine And.intro ?_ ?_
        | (show List.length _ ≠ 1; simp)
        | (show (_ : Int) ≤ _; first | omega | (simp [IntKind.bits, dflt] <;> omega) | (simp at *; omega))
        | (show (_ : Int) < _; first | omega | (simp [IntKind.bits, dflt] <;> omega) | (simp at *; omega))
        | (show (_ : Nat) ≤ _; first | omega | (unfold maxLen; omega) | (simp [IntKind.bits, dflt] <;> omega) | (simp at *; omega))
        | rfl)
  | false =>
    rw [hb2] at h2
    by_cases h6 : 6 < IntKind.i64.wrap (p1.1.2 - p1.1.1)
    · obtain ⟨q, nq, hq1⟩ := once_ex code p2.2.1 p2.2.2 2 hl c2 (by decide)
      have n1q := n12.trans nq
      have cq := n1q.next hc.a0 (by omega)
      have eq := n1q.a1
      cases hbq : q.1 with
      | false =>
        rw [hbq] at hq1
        obtain ⟨p3, n3, h3⟩ := once_ex code q.2.1 q.2.2 3 hl ((n1q).next hc.a0 (by omega)) (by decide)
        have n13 := (n1q).trans n3
        have c3 := n13.next hc.a0 (by omega)
        have e3 := n13.a1
        obtain ⟨p4, b4, n4, h4⟩ := text_ex code p3.2.1 p3.2.2 6 hl c3 (by omega) (by decide)
        have n14 := n13.trans n4
        cases hb3 : p3.1 with
        | true =>
          rw [hb3] at h3
          refine ⟨((p1.1.1, IntKind.i64.wrap (p1.1.2 - p1.1.1), []), p3.2), by simp, n13.mono (by decide), ?_⟩
          refine FnC_of (fn := Tryd.f48) Tryd.func48 rfl rfl rfl ?_
          repeat' (first
            | exact trivial
            | (refine inWO ?_; first
              | refine WO_runE (nw := false) rfl rfl ?_ ?_
              | refine WO_runG (nw := false) rfl rfl rfl rfl rfl ?_ ?_
              | refine WO_runU (nw := false) rfl rfl rfl rfl rfl ?_ ?_
              | refine WO_run1 (nw := false) rfl rfl ?_ ?_
              | refine WO_cons rfl ?_
              | refine WO_gT rfl rfl rfl rfl rfl ?_
              | (refine WO_split rfl rfl rfl rfl ?_ ?_ <;> intro hq <;> try (exfalso; (simp_all) <;> omega))
              | refine WO_nil ?_)
            | (refine inRW ?_; first
              | refine RW_runE (nw := false) rfl rfl (fun _ _ => rfl) rfl ?_ ?_
              | refine RW_runG (nw := false) rfl rfl rfl rfl rfl (fun _ _ => rfl) rfl ?_ ?_
              | refine RW_runU (nw := false) rfl rfl rfl rfl rfl (fun _ _ => rfl) rfl ?_ ?_
              | refine RW_op (us := ?_) (ub := ?_) (fp := ?_) rfl (fun s0 b0 => ?_) ?_ ?_
              | refine RW_opT (us := ?_) (ub := ?_) (fp := ?_) rfl rfl rfl rfl (fun s0 b0 => ?_) ?_ ?_
              | (refine RW_split rfl rfl rfl ?_ ?_ <;> intro hq <;> try (exfalso; (simp_all) <;> omega))
              | refine RW_nil ?_ (by first | decide +kernel | kernel_rfl))
            | (refine gate 1 rfl ?_; first
              | refine callD false (hro) rfl rfl rfl rfl (by (repeat' (first | exact trivial | refine And.intro ?_ ?_ | rfl)); done) rfl rfl ?_)
            | (refine gate 5 rfl ?_; first
              | refine litR rfl rfl rfl rfl rfl rfl rfl rfl ?_
              | refine litW rfl rfl rfl rfl rfl rfl ?_)
            | (refine gate 0 rfl ?_; refine op_storeD rfl rfl rfl rfl rfl rfl rfl rfl rfl rfl ?_)
            | (refine gate 8 rfl ?_; refine op_mkFn rfl rfl rfl rfl ?_)
            | (refine gate 7 rfl ?_; refine op_nil rfl rfl rfl rfl rfl rfl (fun b hb => ?_))
            | (refine inW ?_; first
              | refine W_seq ?_
              | refine W_region ?_
              | refine W_drawN (by decide +kernel) ?_
              | refine W_block ?_
              | refine W_skip ?_
              | refine W_exit ?_
              | refine W_ret ?_
              | refine W_condT rfl rfl ?_
              | refine W_condF rfl rfl ?_
              | (refine W_condB rfl ?_ ?_ <;> intro hq <;> try (exfalso; (simp_all) <;> omega)))
            | (refine inE ?_; first
              | refine end_d rfl rfl rfl rfl ?_ ?_
              | refine end_o rfl rfl rfl rfl ?_ ?_
              | refine end_of rfl rfl rfl ?_ ?_)
            | refine rsOne ?_
            | refine msPd rfl ?_
            | refine msPn ?_
            | refine msPo rfl ?_
            | refine And.intro ?_ ?_
            | (show List.length _ ≠ 1; simp)
            | (show (_ : Int) ≤ _; first | omega | (simp [IntKind.bits, dflt] <;> omega) | (simp at *; omega))
            | (show (_ : Int) < _; first | omega | (simp [IntKind.bits, dflt] <;> omega) | (simp at *; omega))
            | (show (_ : Nat) ≤ _; first | omega | (unfold maxLen; omega) | (simp [IntKind.bits, dflt] <;> omega) | (simp at *; omega))
            | rfl)
          refine OpW_weak (Wk_freeze (o := 13000) rfl) ?_
          repeat' (first
            | exact trivial
            | (refine inWO ?_; first
              | refine WO_runE (nw := false) rfl rfl ?_ ?_
              | refine WO_runG (nw := false) rfl rfl rfl rfl rfl ?_ ?_
              | refine WO_runU (nw := false) rfl rfl rfl rfl rfl ?_ ?_
              | refine WO_run1 (nw := false) rfl rfl ?_ ?_
              | refine WO_cons rfl ?_
              | refine WO_gT rfl rfl rfl rfl rfl ?_
              | (refine WO_split rfl rfl rfl rfl ?_ ?_ <;> intro hq <;> try (exfalso; (simp_all) <;> omega))
              | refine WO_nil ?_)
            | (refine inRW ?_; first
              | refine RW_runE (nw := false) rfl rfl (fun _ _ => rfl) rfl ?_ ?_
              | refine RW_runG (nw := false) rfl rfl rfl rfl rfl (fun _ _ => rfl) rfl ?_ ?_
              | refine RW_runU (nw := false) rfl rfl rfl rfl rfl (fun _ _ => rfl) rfl ?_ ?_
              | refine RW_op (us := ?_) (ub := ?_) (fp := ?_) rfl (fun s0 b0 => ?_) ?_ ?_
              | refine RW_opT (us := ?_) (ub := ?_) (fp := ?_) rfl rfl rfl rfl (fun s0 b0 => ?_) ?_ ?_
              | (refine RW_split rfl rfl rfl ?_ ?_ <;> intro hq <;> try (exfalso; (simp_all) <;> omega))
              | refine RW_nil ?_ (by first | decide +kernel | kernel_rfl))
            | (refine gate 1 rfl ?_; first
              | refine callB (h1) rfl rfl rfl rfl rfl rfl rfl rfl rfl ⟨⟨rfl, trivial⟩, trivial⟩ ⟨rfl, rfl, rfl, trivial⟩ rfl rfl rfl rfl rfl rfl rfl rfl ?_
              | refine callB (h2) rfl rfl rfl rfl rfl rfl rfl rfl rfl ⟨rfl, trivial⟩ ⟨rfl, rfl, rfl, trivial⟩ rfl rfl rfl rfl rfl rfl rfl rfl ?_
              | refine callB (hq1) rfl rfl rfl rfl rfl rfl rfl rfl rfl ⟨rfl, trivial⟩ ⟨rfl, rfl, rfl, trivial⟩ rfl rfl rfl rfl rfl rfl rfl rfl ?_
              | refine callB (h3) rfl rfl rfl rfl rfl rfl rfl rfl rfl ⟨rfl, trivial⟩ ⟨rfl, rfl, rfl, trivial⟩ rfl rfl rfl rfl rfl rfl rfl rfl ?_)
            | (refine gate 5 rfl ?_; first
              | refine litR rfl rfl rfl rfl rfl rfl rfl rfl ?_
              | refine litW rfl rfl rfl rfl rfl rfl ?_)
            | (refine gate 0 rfl ?_; refine op_storeD rfl rfl rfl rfl rfl rfl rfl rfl rfl rfl ?_)
            | (refine gate 8 rfl ?_; refine op_mkFn rfl rfl rfl rfl ?_)
            | (refine gate 7 rfl ?_; refine op_nil rfl rfl rfl rfl rfl rfl (fun b hb => ?_))
            | (refine inW ?_; first
              | refine W_seq ?_
              | refine W_region ?_
              | refine W_drawN (by decide +kernel) ?_
              | refine W_block ?_
              | refine W_skip ?_
              | refine W_exit ?_
              | refine W_ret ?_
              | refine W_condT rfl rfl ?_
              | refine W_condF rfl rfl ?_
              | (refine W_condB rfl ?_ ?_ <;> intro hq <;> try (exfalso; (simp_all) <;> omega)))
            | (refine inE ?_; first
              | refine end_d rfl rfl rfl rfl ?_ ?_
              | refine end_o rfl rfl rfl rfl ?_ ?_
              | refine end_of rfl rfl rfl ?_ ?_)
            | refine rsOne ?_
            | refine msPd rfl ?_
            | refine msPn ?_
            | refine msPo rfl ?_
            | refine And.intro ?_ ?_
            | (show List.length _ ≠ 1; simp)
            | (show (_ : Int) ≤ _; first | omega | (simp [IntKind.bits, dflt] <;> omega) | (simp at *; omega))
            | (show (_ : Int) < _; first | omega | (simp [IntKind.bits, dflt] <;> omega) | (simp at *; omega))
            | (show (_ : Nat) ≤ _; first | omega | (unfold maxLen; omega) | (simp [IntKind.bits, dflt] <;> omega) | (simp at *; omega))
            | rfl)
        | false =>
          rw [hb3] at h3
          refine ⟨((p1.1.1, IntKind.i64.wrap (p1.1.2 - p1.1.1), p4.1), p4.2), by simp only; omega, n14.mono (by decide), ?_⟩
          refine FnC_of (fn := Tryd.f48) Tryd.func48 rfl rfl rfl ?_
          repeat' (first
            | exact trivial
            | (refine inWO ?_; first
              | refine WO_runE (nw := false) rfl rfl ?_ ?_
              | refine WO_runG (nw := false) rfl rfl rfl rfl rfl ?_ ?_
              | refine WO_runU (nw := false) rfl rfl rfl rfl rfl ?_ ?_
              | refine WO_run1 (nw := false) rfl rfl ?_ ?_
              | refine WO_cons rfl ?_
              | refine WO_gT rfl rfl rfl rfl rfl ?_
              | (refine WO_split rfl rfl rfl rfl ?_ ?_ <;> intro hq <;> try (exfalso; (simp_all) <;> omega))
              | refine WO_nil ?_)
            | (refine inRW ?_; first
              | refine RW_runE (nw := false) rfl rfl (fun _ _ => rfl) rfl ?_ ?_
              | refine RW_runG (nw := false) rfl rfl rfl rfl rfl (fun _ _ => rfl) rfl ?_ ?_
              | refine RW_runU (nw := false) rfl rfl rfl rfl rfl (fun _ _ => rfl) rfl ?_ ?_
              | refine RW_op (us := ?_) (ub := ?_) (fp := ?_) rfl (fun s0 b0 => ?_) ?_ ?_
              | refine RW_opT (us := ?_) (ub := ?_) (fp := ?_) rfl rfl rfl rfl (fun s0 b0 => ?_) ?_ ?_
              | (refine RW_split rfl rfl rfl ?_ ?_ <;> intro hq <;> try (exfalso; (simp_all) <;> omega))
              | refine RW_nil ?_ (by first | decide +kernel | kernel_rfl))
            | (refine gate 1 rfl ?_; first
              | refine callD false (hro) rfl rfl rfl rfl (by (repeat' (first | exact trivial | refine And.intro ?_ ?_ | rfl)); done) rfl rfl ?_)
            | (refine gate 5 rfl ?_; first
              | refine litR rfl rfl rfl rfl rfl rfl rfl rfl ?_
              | refine litW rfl rfl rfl rfl rfl rfl ?_)
            | (refine gate 0 rfl ?_; refine op_storeD rfl rfl rfl rfl rfl rfl rfl rfl rfl rfl ?_)
            | (refine gate 8 rfl ?_; refine op_mkFn rfl rfl rfl rfl ?_)
            | (refine gate 7 rfl ?_; refine op_nil rfl rfl rfl rfl rfl rfl (fun b hb => ?_))
            | (refine inW ?_; first
              | refine W_seq ?_
              | refine W_region ?_
              | refine W_drawN (by decide +kernel) ?_
              | refine W_block ?_
              | refine W_skip ?_
              | refine W_exit ?_
              | refine W_ret ?_
              | refine W_condT rfl rfl ?_
              | refine W_condF rfl rfl ?_
              | (refine W_condB rfl ?_ ?_ <;> intro hq <;> try (exfalso; (simp_all) <;> omega)))
            | (refine inE ?_; first
              | refine end_d rfl rfl rfl rfl ?_ ?_
              | refine end_o rfl rfl rfl rfl ?_ ?_
              | refine end_of rfl rfl rfl ?_ ?_)
            | refine rsOne ?_
            | refine msPd rfl ?_
            | refine msPn ?_
            | refine msPo rfl ?_
            | refine And.intro ?_ ?_
            | (show List.length _ ≠ 1; simp)
            | (show (_ : Int) ≤ _; first | omega | (simp [IntKind.bits, dflt] <;> omega) | (simp at *; omega))
            | (show (_ : Int) < _; first | omega | (simp [IntKind.bits, dflt] <;> omega) | (simp at *; omega))
            | (show (_ : Nat) ≤ _; first | omega | (unfold maxLen; omega) | (simp [IntKind.bits, dflt] <;> omega) | (simp at *; omega))
            | rfl)
          refine OpW_weak (Wk_freeze (o := 13000) rfl) ?_
          repeat' (first
            | exact trivial
            | (refine inWO ?_; first
              | refine WO_runE (nw := false) rfl rfl ?_ ?_
              | refine WO_runG (nw := false) rfl rfl rfl rfl rfl ?_ ?_
              | refine WO_runU (nw := false) rfl rfl rfl rfl rfl ?_ ?_
              | refine WO_run1 (nw := false) rfl rfl ?_ ?_
              | refine WO_cons rfl ?_
              | refine WO_gT rfl rfl rfl rfl rfl ?_
              | (refine WO_split rfl rfl rfl rfl ?_ ?_ <;> intro hq <;> try (exfalso; (simp_all) <;> omega))
              | refine WO_nil ?_)
            | (refine inRW ?_; first
              | refine RW_runE (nw := false) rfl rfl (fun _ _ => rfl) rfl ?_ ?_
              | refine RW_runG (nw := false) rfl rfl rfl rfl rfl (fun _ _ => rfl) rfl ?_ ?_
              | refine RW_runU (nw := false) rfl rfl rfl rfl rfl (fun _ _ => rfl) rfl ?_ ?_
              | refine RW_op (us := ?_) (ub := ?_) (fp := ?_) rfl (fun s0 b0 => ?_) ?_ ?_
              | refine RW_opT (us := ?_) (ub := ?_) (fp := ?_) rfl rfl rfl rfl (fun s0 b0 => ?_) ?_ ?_
              | (refine RW_split rfl rfl rfl ?_ ?_ <;> intro hq <;> try (exfalso; (simp_all) <;> omega))
              | refine RW_nil ?_ (by first | decide +kernel | kernel_rfl))
            | (refine gate 1 rfl ?_; first
              | refine callB (h1) rfl rfl rfl rfl rfl rfl rfl rfl rfl ⟨⟨rfl, trivial⟩, trivial⟩ ⟨rfl, rfl, rfl, trivial⟩ rfl rfl rfl rfl rfl rfl rfl rfl ?_
              | refine callB (h2) rfl rfl rfl rfl rfl rfl rfl rfl rfl ⟨rfl, trivial⟩ ⟨rfl, rfl, rfl, trivial⟩ rfl rfl rfl rfl rfl rfl rfl rfl ?_
              | refine callB (hq1) rfl rfl rfl rfl rfl rfl rfl rfl rfl ⟨rfl, trivial⟩ ⟨rfl, rfl, rfl, trivial⟩ rfl rfl rfl rfl rfl rfl rfl rfl ?_
              | refine callB (h3) rfl rfl rfl rfl rfl rfl rfl rfl rfl ⟨rfl, trivial⟩ ⟨rfl, rfl, rfl, trivial⟩ rfl rfl rfl rfl rfl rfl rfl rfl ?_
              | refine callB (h4) rfl rfl rfl rfl rfl rfl rfl rfl rfl ⟨rfl, trivial⟩ ⟨rfl, rfl, rfl, trivial⟩ rfl rfl rfl rfl rfl rfl rfl rfl ?_)
            | (refine gate 5 rfl ?_; first
              | refine litR rfl rfl rfl rfl rfl rfl rfl rfl ?_
              | refine litW rfl rfl rfl rfl rfl rfl ?_)
            | (refine gate 0 rfl ?_; refine op_storeD rfl rfl rfl rfl rfl rfl rfl rfl rfl rfl ?_)
            | (refine gate 8 rfl ?_; refine op_mkFn rfl rfl rfl rfl ?_)
            | (refine gate 7 rfl ?_; refine op_nil rfl rfl rfl rfl rfl rfl (fun b hb => ?_))
            | (refine inW ?_; first
              | refine W_seq ?_
              | refine W_region ?_
              | refine W_drawN (by decide +kernel) ?_
              | refine W_block ?_
              | refine W_skip ?_
              | refine W_exit ?_
              | refine W_ret ?_
              | refine W_condT rfl rfl ?_
              | refine W_condF rfl rfl ?_
              | (refine W_condB rfl ?_ ?_ <;> intro hq <;> try (exfalso; (simp_all) <;> omega)))
            | (refine inE ?_; first
              | refine end_d rfl rfl rfl rfl ?_ ?_
              | refine end_o rfl rfl rfl rfl ?_ ?_
              | refine end_of rfl rfl rfl ?_ ?_)
            | refine rsOne ?_
            | refine msPd rfl ?_
            | refine msPn ?_
            | refine msPo rfl ?_
            | refine And.intro ?_ ?_
            | (show List.length _ ≠ 1; simp)
            | (show (_ : Int) ≤ _; first | omega | (simp [IntKind.bits, dflt] <;> omega) | (simp at *; omega))
            | (show (_ : Int) < _; first | omega | (simp [IntKind.bits, dflt] <;> omega) | (simp at *; omega))
            | (show (_ : Nat) ≤ _; first | omega | (unfold maxLen; omega) | (simp [IntKind.bits, dflt] <;> omega) | (simp at *; omega))
            | rfl)
      | true =>
        rw [hbq] at hq1
        obtain ⟨r, nr, hr⟩ := cutof_ex code q.2.1 q.2.2 (chunksM t) hl cq (by omega) hn hm
        have n1r := n1q.trans nr
        have er := n1r.a1
        by_cases h7 : IntKind.i64.wrap (r.1 - p1.1.1) < 0
        · obtain ⟨p3, n3, h3⟩ := once_ex code r.2.1 r.2.2 3 hl ((n1r).next hc.a0 (by omega)) (by decide)
          have n13 := (n1r).trans n3
          have c3 := n13.next hc.a0 (by omega)
          have e3 := n13.a1
          obtain ⟨p4, b4, n4, h4⟩ := text_ex code p3.2.1 p3.2.2 6 hl c3 (by omega) (by decide)
          have n14 := n13.trans n4
          cases hb3 : p3.1 with
          | true =>
            rw [hb3] at h3
            refine ⟨((p1.1.1, IntKind.i64.wrap (p1.1.2 - p1.1.1), []), p3.2), by simp, n13.mono (by decide), ?_⟩
            refine FnC_of (fn := Tryd.f48) Tryd.func48 rfl rfl rfl ?_
            repeat' (first
              | exact trivial
              | (refine inWO ?_; first
                | refine WO_runE (nw := false) rfl rfl ?_ ?_
                | refine WO_runG (nw := false) rfl rfl rfl rfl rfl ?_ ?_
                | refine WO_runU (nw := false) rfl rfl rfl rfl rfl ?_ ?_
                | refine WO_run1 (nw := false) rfl rfl ?_ ?_
                | refine WO_cons rfl ?_
                | refine WO_gT rfl rfl rfl rfl rfl ?_
                | (refine WO_split rfl rfl rfl rfl ?_ ?_ <;> intro hq <;> try (exfalso; (simp_all) <;> omega))
                | refine WO_nil ?_)
              | (refine inRW ?_; first
                | refine RW_runE (nw := false) rfl rfl (fun _ _ => rfl) rfl ?_ ?_
                | refine RW_runG (nw := false) rfl rfl rfl rfl rfl (fun _ _ => rfl) rfl ?_ ?_
                | refine RW_runU (nw := false) rfl rfl rfl rfl rfl (fun _ _ => rfl) rfl ?_ ?_
                | refine RW_op (us := ?_) (ub := ?_) (fp := ?_) rfl (fun s0 b0 => ?_) ?_ ?_
                | refine RW_opT (us := ?_) (ub := ?_) (fp := ?_) rfl rfl rfl rfl (fun s0 b0 => ?_) ?_ ?_
                | (refine RW_split rfl rfl rfl ?_ ?_ <;> intro hq <;> try (exfalso; (simp_all) <;> omega))
                | refine RW_nil ?_ (by first | decide +kernel | kernel_rfl))
              | (refine gate 1 rfl ?_; first
                | refine callD false (hro) rfl rfl rfl rfl (by (repeat' (first | exact trivial | refine And.intro ?_ ?_ | rfl)); done) rfl rfl ?_)
              | (refine gate 5 rfl ?_; first
                | refine litR rfl rfl rfl rfl rfl rfl rfl rfl ?_
                | refine litW rfl rfl rfl rfl rfl rfl ?_)
              | (refine gate 0 rfl ?_; refine op_storeD rfl rfl rfl rfl rfl rfl rfl rfl rfl rfl ?_)
              | (refine gate 8 rfl ?_; refine op_mkFn rfl rfl rfl rfl ?_)
              | (refine gate 7 rfl ?_; refine op_nil rfl rfl rfl rfl rfl rfl (fun b hb => ?_))
              | (refine inW ?_; first
                | refine W_seq ?_
                | refine W_region ?_
                | refine W_drawN (by decide +kernel) ?_
                | refine W_block ?_
                | refine W_skip ?_
                | refine W_exit ?_
                | refine W_ret ?_
                | refine W_condT rfl rfl ?_
                | refine W_condF rfl rfl ?_
                | (refine W_condB rfl ?_ ?_ <;> intro hq <;> try (exfalso; (simp_all) <;> omega)))
              | (refine inE ?_; first
                | refine end_d rfl rfl rfl rfl ?_ ?_
                | refine end_o rfl rfl rfl rfl ?_ ?_
                | refine end_of rfl rfl rfl ?_ ?_)
              | refine rsOne ?_
              | refine msPd rfl ?_
              | refine msPn ?_
              | refine msPo rfl ?_
              | refine And.intro ?_ ?_
              | (show List.length _ ≠ 1; simp)
              | (show (_ : Int) ≤ _; first | omega | (simp [IntKind.bits, dflt] <;> omega) | (simp at *; omega))
              | (show (_ : Int) < _; first | omega | (simp [IntKind.bits, dflt] <;> omega) | (simp at *; omega))
              | (show (_ : Nat) ≤ _; first | omega | (unfold maxLen; omega) | (simp [IntKind.bits, dflt] <;> omega) | (simp at *; omega))
              | rfl)
            refine OpW_weak (Wk_freeze (o := 13000) rfl) ?_
            repeat' (first
              | exact trivial
              | (refine inWO ?_; first
                | refine WO_runE (nw := false) rfl rfl ?_ ?_
                | refine WO_runG (nw := false) rfl rfl rfl rfl rfl ?_ ?_
                | refine WO_runU (nw := false) rfl rfl rfl rfl rfl ?_ ?_
                | refine WO_run1 (nw := false) rfl rfl ?_ ?_
                | refine WO_cons rfl ?_
                | refine WO_gT rfl rfl rfl rfl rfl ?_
                | (refine WO_split rfl rfl rfl rfl ?_ ?_ <;> intro hq <;> try (exfalso; (simp_all) <;> omega))
                | refine WO_nil ?_)
              | (refine inRW ?_; first
                | refine RW_runE (nw := false) rfl rfl (fun _ _ => rfl) rfl ?_ ?_
                | refine RW_runG (nw := false) rfl rfl rfl rfl rfl (fun _ _ => rfl) rfl ?_ ?_
                | refine RW_runU (nw := false) rfl rfl rfl rfl rfl (fun _ _ => rfl) rfl ?_ ?_
                | refine RW_op (us := ?_) (ub := ?_) (fp := ?_) rfl (fun s0 b0 => ?_) ?_ ?_
                | refine RW_opT (us := ?_) (ub := ?_) (fp := ?_) rfl rfl rfl rfl (fun s0 b0 => ?_) ?_ ?_
                | (refine RW_split rfl rfl rfl ?_ ?_ <;> intro hq <;> try (exfalso; (simp_all) <;> omega))
                | refine RW_nil ?_ (by first | decide +kernel | kernel_rfl))
              | (refine gate 1 rfl ?_; first
                | refine callB (h1) rfl rfl rfl rfl rfl rfl rfl rfl rfl ⟨⟨rfl, trivial⟩, trivial⟩ ⟨rfl, rfl, rfl, trivial⟩ rfl rfl rfl rfl rfl rfl rfl rfl ?_
                | refine callB (h2) rfl rfl rfl rfl rfl rfl rfl rfl rfl ⟨rfl, trivial⟩ ⟨rfl, rfl, rfl, trivial⟩ rfl rfl rfl rfl rfl rfl rfl rfl ?_
                | refine callB (hq1) rfl rfl rfl rfl rfl rfl rfl rfl rfl ⟨rfl, trivial⟩ ⟨rfl, rfl, rfl, trivial⟩ rfl rfl rfl rfl rfl rfl rfl rfl ?_
                | refine callB (hr) rfl rfl rfl rfl rfl rfl rfl rfl rfl ⟨⟨rfl, trivial⟩, trivial⟩ ⟨rfl, rfl, rfl, trivial⟩ rfl rfl rfl rfl rfl rfl rfl rfl ?_
                | refine callB (h3) rfl rfl rfl rfl rfl rfl rfl rfl rfl ⟨rfl, trivial⟩ ⟨rfl, rfl, rfl, trivial⟩ rfl rfl rfl rfl rfl rfl rfl rfl ?_)
              | (refine gate 5 rfl ?_; first
                | refine litR rfl rfl rfl rfl rfl rfl rfl rfl ?_
                | refine litW rfl rfl rfl rfl rfl rfl ?_)
              | (refine gate 0 rfl ?_; refine op_storeD rfl rfl rfl rfl rfl rfl rfl rfl rfl rfl ?_)
              | (refine gate 8 rfl ?_; refine op_mkFn rfl rfl rfl rfl ?_)
              | (refine gate 7 rfl ?_; refine op_nil rfl rfl rfl rfl rfl rfl (fun b hb => ?_))
              | (refine inW ?_; first
                | refine W_seq ?_
                | refine W_region ?_
                | refine W_drawN (by decide +kernel) ?_
                | refine W_block ?_
                | refine W_skip ?_
                | refine W_exit ?_
                | refine W_ret ?_
                | refine W_condT rfl rfl ?_
                | refine W_condF rfl rfl ?_
                | (refine W_condB rfl ?_ ?_ <;> intro hq <;> try (exfalso; (simp_all) <;> omega)))
              | (refine inE ?_; first
                | refine end_d rfl rfl rfl rfl ?_ ?_
                | refine end_o rfl rfl rfl rfl ?_ ?_
                | refine end_of rfl rfl rfl ?_ ?_)
              | refine rsOne ?_
              | refine msPd rfl ?_
              | refine msPn ?_
              | refine msPo rfl ?_
              | refine And.intro ?_ ?_
              | (show List.length _ ≠ 1; simp)
              | (show (_ : Int) ≤ _; first | omega | (simp [IntKind.bits, dflt] <;> omega) | (simp at *; omega))
              | (show (_ : Int) < _; first | omega | (simp [IntKind.bits, dflt] <;> omega) | (simp at *; omega))
              | (show (_ : Nat) ≤ _; first | omega | (unfold maxLen; omega) | (simp [IntKind.bits, dflt] <;> omega) | (simp at *; omega))
              | rfl)
          | false =>
            rw [hb3] at h3
            refine ⟨((p1.1.1, IntKind.i64.wrap (p1.1.2 - p1.1.1), p4.1), p4.2), by simp only; omega, n14.mono (by decide), ?_⟩
            refine FnC_of (fn := Tryd.f48) Tryd.func48 rfl rfl rfl ?_
            repeat' (first
              | exact trivial
              | (refine inWO ?_; first
                | refine WO_runE (nw := false) rfl rfl ?_ ?_
                | refine WO_runG (nw := false) rfl rfl rfl rfl rfl ?_ ?_
                | refine WO_runU (nw := false) rfl rfl rfl rfl rfl ?_ ?_
                | refine WO_run1 (nw := false) rfl rfl ?_ ?_
                | refine WO_cons rfl ?_
                | refine WO_gT rfl rfl rfl rfl rfl ?_
                | (refine WO_split rfl rfl rfl rfl ?_ ?_ <;> intro hq <;> try (exfalso; (simp_all) <;> omega))
                | refine WO_nil ?_)
              | (refine inRW ?_; first
                | refine RW_runE (nw := false) rfl rfl (fun _ _ => rfl) rfl ?_ ?_
                | refine RW_runG (nw := false) rfl rfl rfl rfl rfl (fun _ _ => rfl) rfl ?_ ?_
                | refine RW_runU (nw := false) rfl rfl rfl rfl rfl (fun _ _ => rfl) rfl ?_ ?_
                | refine RW_op (us := ?_) (ub := ?_) (fp := ?_) rfl (fun s0 b0 => ?_) ?_ ?_
                | refine RW_opT (us := ?_) (ub := ?_) (fp := ?_) rfl rfl rfl rfl (fun s0 b0 => ?_) ?_ ?_
                | (refine RW_split rfl rfl rfl ?_ ?_ <;> intro hq <;> try (exfalso; (simp_all) <;> omega))
                | refine RW_nil ?_ (by first | decide +kernel | kernel_rfl))
              | (refine gate 1 rfl ?_; first
                | refine callD false (hro) rfl rfl rfl rfl (by (repeat' (first | exact trivial | refine And.intro ?_ ?_ | rfl)); done) rfl rfl ?_)
              | (refine gate 5 rfl ?_; first
                | refine litR rfl rfl rfl rfl rfl rfl rfl rfl ?_
                | refine litW rfl rfl rfl rfl rfl rfl ?_)
              | (refine gate 0 rfl ?_; refine op_storeD rfl rfl rfl rfl rfl rfl rfl rfl rfl rfl ?_)
              | (refine gate 8 rfl ?_; refine op_mkFn rfl rfl rfl rfl ?_)
              | (refine gate 7 rfl ?_; refine op_nil rfl rfl rfl rfl rfl rfl (fun b hb => ?_))
              | (refine inW ?_; first
                | refine W_seq ?_
                | refine W_region ?_
                | refine W_drawN (by decide +kernel) ?_
                | refine W_block ?_
                | refine W_skip ?_
                | refine W_exit ?_
                | refine W_ret ?_
                | refine W_condT rfl rfl ?_
                | refine W_condF rfl rfl ?_
                | (refine W_condB rfl ?_ ?_ <;> intro hq <;> try (exfalso; (simp_all) <;> omega)))
              | (refine inE ?_; first
                | refine end_d rfl rfl rfl rfl ?_ ?_
                | refine end_o rfl rfl rfl rfl ?_ ?_
                | refine end_of rfl rfl rfl ?_ ?_)
              | refine rsOne ?_
              | refine msPd rfl ?_
              | refine msPn ?_
              | refine msPo rfl ?_
              | refine And.intro ?_ ?_
              | (show List.length _ ≠ 1; simp)
              | (show (_ : Int) ≤ _; first | omega | (simp [IntKind.bits, dflt] <;> omega) | (simp at *; omega))
              | (show (_ : Int) < _; first | omega | (simp [IntKind.bits, dflt] <;> omega) | (simp at *; omega))
              | (show (_ : Nat) ≤ _; first | omega | (unfold maxLen; omega) | (simp [IntKind.bits, dflt] <;> omega) | (simp at *; omega))
              | rfl)
            refine OpW_weak (Wk_freeze (o := 13000) rfl) ?_
            repeat' (first
              | exact trivial
              | (refine inWO ?_; first
                | refine WO_runE (nw := false) rfl rfl ?_ ?_
                | refine WO_runG (nw := false) rfl rfl rfl rfl rfl ?_ ?_
                | refine WO_runU (nw := false) rfl rfl rfl rfl rfl ?_ ?_
                | refine WO_run1 (nw := false) rfl rfl ?_ ?_
                | refine WO_cons rfl ?_
                | refine WO_gT rfl rfl rfl rfl rfl ?_
                | (refine WO_split rfl rfl rfl rfl ?_ ?_ <;> intro hq <;> try (exfalso; (simp_all) <;> omega))
                | refine WO_nil ?_)
              | (refine inRW ?_; first
                | refine RW_runE (nw := false) rfl rfl (fun _ _ => rfl) rfl ?_ ?_
                | refine RW_runG (nw := false) rfl rfl rfl rfl rfl (fun _ _ => rfl) rfl ?_ ?_
                | refine RW_runU (nw := false) rfl rfl rfl rfl rfl (fun _ _ => rfl) rfl ?_ ?_
                | refine RW_op (us := ?_) (ub := ?_) (fp := ?_) rfl (fun s0 b0 => ?_) ?_ ?_
                | refine RW_opT (us := ?_) (ub := ?_) (fp := ?_) rfl rfl rfl rfl (fun s0 b0 => ?_) ?_ ?_
                | (refine RW_split rfl rfl rfl ?_ ?_ <;> intro hq <;> try (exfalso; (simp_all) <;> omega))
                | refine RW_nil ?_ (by first | decide +kernel | kernel_rfl))
              | (refine gate 1 rfl ?_; first
                | refine callB (h1) rfl rfl rfl rfl rfl rfl rfl rfl rfl ⟨⟨rfl, trivial⟩, trivial⟩ ⟨rfl, rfl, rfl, trivial⟩ rfl rfl rfl rfl rfl rfl rfl rfl ?_
                | refine callB (h2) rfl rfl rfl rfl rfl rfl rfl rfl rfl ⟨rfl, trivial⟩ ⟨rfl, rfl, rfl, trivial⟩ rfl rfl rfl rfl rfl rfl rfl rfl ?_
                | refine callB (hq1) rfl rfl rfl rfl rfl rfl rfl rfl rfl ⟨rfl, trivial⟩ ⟨rfl, rfl, rfl, trivial⟩ rfl rfl rfl rfl rfl rfl rfl rfl ?_
                | refine callB (hr) rfl rfl rfl rfl rfl rfl rfl rfl rfl ⟨⟨rfl, trivial⟩, trivial⟩ ⟨rfl, rfl, rfl, trivial⟩ rfl rfl rfl rfl rfl rfl rfl rfl ?_
                | refine callB (h3) rfl rfl rfl rfl rfl rfl rfl rfl rfl ⟨rfl, trivial⟩ ⟨rfl, rfl, rfl, trivial⟩ rfl rfl rfl rfl rfl rfl rfl rfl ?_
                | refine callB (h4) rfl rfl rfl rfl rfl rfl rfl rfl rfl ⟨rfl, trivial⟩ ⟨rfl, rfl, rfl, trivial⟩ rfl rfl rfl rfl rfl rfl rfl rfl ?_)
              | (refine gate 5 rfl ?_; first
                | refine litR rfl rfl rfl rfl rfl rfl rfl rfl ?_
                | refine litW rfl rfl rfl rfl rfl rfl ?_)
              | (refine gate 0 rfl ?_; refine op_storeD rfl rfl rfl rfl rfl rfl rfl rfl rfl rfl ?_)
              | (refine gate 8 rfl ?_; refine op_mkFn rfl rfl rfl rfl ?_)
              | (refine gate 7 rfl ?_; refine op_nil rfl rfl rfl rfl rfl rfl (fun b hb => ?_))
              | (refine inW ?_; first
                | refine W_seq ?_
                | refine W_region ?_
                | refine W_drawN (by decide +kernel) ?_
                | refine W_block ?_
                | refine W_skip ?_
                | refine W_exit ?_
                | refine W_ret ?_
                | refine W_condT rfl rfl ?_
                | refine W_condF rfl rfl ?_
                | (refine W_condB rfl ?_ ?_ <;> intro hq <;> try (exfalso; (simp_all) <;> omega)))
              | (refine inE ?_; first
                | refine end_d rfl rfl rfl rfl ?_ ?_
                | refine end_o rfl rfl rfl rfl ?_ ?_
                | refine end_of rfl rfl rfl ?_ ?_)
              | refine rsOne ?_
              | refine msPd rfl ?_
              | refine msPn ?_
              | refine msPo rfl ?_
              | refine And.intro ?_ ?_
              | (show List.length _ ≠ 1; simp)
              | (show (_ : Int) ≤ _; first | omega | (simp [IntKind.bits, dflt] <;> omega) | (simp at *; omega))
              | (show (_ : Int) < _; first | omega | (simp [IntKind.bits, dflt] <;> omega) | (simp at *; omega))
              | (show (_ : Nat) ≤ _; first | omega | (unfold maxLen; omega) | (simp [IntKind.bits, dflt] <;> omega) | (simp at *; omega))
              | rfl)
        · obtain ⟨p3, n3, h3⟩ := once_ex code r.2.1 r.2.2 3 hl ((n1r).next hc.a0 (by omega)) (by decide)
          have n13 := (n1r).trans n3
          have c3 := n13.next hc.a0 (by omega)
          have e3 := n13.a1
          obtain ⟨p4, b4, n4, h4⟩ := text_ex code p3.2.1 p3.2.2 6 hl c3 (by omega) (by decide)
          have n14 := n13.trans n4
          cases hb3 : p3.1 with
          | true =>
            rw [hb3] at h3
            refine ⟨((p1.1.1, IntKind.i64.wrap (r.1 - p1.1.1), []), p3.2), by simp, n13.mono (by decide), ?_⟩
            refine FnC_of (fn := Tryd.f48) Tryd.func48 rfl rfl rfl ?_
            repeat' (first
              | exact trivial
              | (refine inWO ?_; first
                | refine WO_runE (nw := false) rfl rfl ?_ ?_
                | refine WO_runG (nw := false) rfl rfl rfl rfl rfl ?_ ?_
                | refine WO_runU (nw := false) rfl rfl rfl rfl rfl ?_ ?_
                | refine WO_run1 (nw := false) rfl rfl ?_ ?_
                | refine WO_cons rfl ?_
                | refine WO_gT rfl rfl rfl rfl rfl ?_
                | (refine WO_split rfl rfl rfl rfl ?_ ?_ <;> intro hq <;> try (exfalso; (simp_all) <;> omega))
                | refine WO_nil ?_)
              | (refine inRW ?_; first
                | refine RW_runE (nw := false) rfl rfl (fun _ _ => rfl) rfl ?_ ?_
                | refine RW_runG (nw := false) rfl rfl rfl rfl rfl (fun _ _ => rfl) rfl ?_ ?_
                | refine RW_runU (nw := false) rfl rfl rfl rfl rfl (fun _ _ => rfl) rfl ?_ ?_
                | refine RW_op (us := ?_) (ub := ?_) (fp := ?_) rfl (fun s0 b0 => ?_) ?_ ?_
                | refine RW_opT (us := ?_) (ub := ?_) (fp := ?_) rfl rfl rfl rfl (fun s0 b0 => ?_) ?_ ?_
                | (refine RW_split rfl rfl rfl ?_ ?_ <;> intro hq <;> try (exfalso; (simp_all) <;> omega))
                | refine RW_nil ?_ (by first | decide +kernel | kernel_rfl))
              | (refine gate 1 rfl ?_; first
                | refine callD false (hro) rfl rfl rfl rfl (by (repeat' (first | exact trivial | refine And.intro ?_ ?_ | rfl)); done) rfl rfl ?_)
              | (refine gate 5 rfl ?_; first
                | refine litR rfl rfl rfl rfl rfl rfl rfl rfl ?_
                | refine litW rfl rfl rfl rfl rfl rfl ?_)
              | (refine gate 0 rfl ?_; refine op_storeD rfl rfl rfl rfl rfl rfl rfl rfl rfl rfl ?_)
              | (refine gate 8 rfl ?_; refine op_mkFn rfl rfl rfl rfl ?_)
              | (refine gate 7 rfl ?_; refine op_nil rfl rfl rfl rfl rfl rfl (fun b hb => ?_))
              | (refine inW ?_; first
                | refine W_seq ?_
                | refine W_region ?_
                | refine W_drawN (by decide +kernel) ?_
                | refine W_block ?_
                | refine W_skip ?_
                | refine W_exit ?_
                | refine W_ret ?_
                | refine W_condT rfl rfl ?_
                | refine W_condF rfl rfl ?_
                | (refine W_condB rfl ?_ ?_ <;> intro hq <;> try (exfalso; (simp_all) <;> omega)))
              | (refine inE ?_; first
                | refine end_d rfl rfl rfl rfl ?_ ?_
                | refine end_o rfl rfl rfl rfl ?_ ?_
                | refine end_of rfl rfl rfl ?_ ?_)
              | refine rsOne ?_
              | refine msPd rfl ?_
              | refine msPn ?_
              | refine msPo rfl ?_
              | refine And.intro ?_ ?_
              | (show List.length _ ≠ 1; simp)
              | (show (_ : Int) ≤ _; first | omega | (simp [IntKind.bits, dflt] <;> omega) | (simp at *; omega))
              | (show (_ : Int) < _; first | omega | (simp [IntKind.bits, dflt] <;> omega) | (simp at *; omega))
              | (show (_ : Nat) ≤ _; first | omega | (unfold maxLen; omega) | (simp [IntKind.bits, dflt] <;> omega) | (simp at *; omega))
              | rfl)
            refine OpW_weak (Wk_freeze (o := 13000) rfl) ?_
            repeat' (first
              | exact trivial
              | (refine inWO ?_; first
                | refine WO_runE (nw := false) rfl rfl ?_ ?_
                | refine WO_runG (nw := false) rfl rfl rfl rfl rfl ?_ ?_
                | refine WO_runU (nw := false) rfl rfl rfl rfl rfl ?_ ?_
                | refine WO_run1 (nw := false) rfl rfl ?_ ?_
                | refine WO_cons rfl ?_
                | refine WO_gT rfl rfl rfl rfl rfl ?_
                | (refine WO_split rfl rfl rfl rfl ?_ ?_ <;> intro hq <;> try (exfalso; (simp_all) <;> omega))
                | refine WO_nil ?_)
              | (refine inRW ?_; first
                | refine RW_runE (nw := false) rfl rfl (fun _ _ => rfl) rfl ?_ ?_
                | refine RW_runG (nw := false) rfl rfl rfl rfl rfl (fun _ _ => rfl) rfl ?_ ?_
                | refine RW_runU (nw := false) rfl rfl rfl rfl rfl (fun _ _ => rfl) rfl ?_ ?_
                | refine RW_op (us := ?_) (ub := ?_) (fp := ?_) rfl (fun s0 b0 => ?_) ?_ ?_
                | refine RW_opT (us := ?_) (ub := ?_) (fp := ?_) rfl rfl rfl rfl (fun s0 b0 => ?_) ?_ ?_
                | (refine RW_split rfl rfl rfl ?_ ?_ <;> intro hq <;> try (exfalso; (simp_all) <;> omega))
                | refine RW_nil ?_ (by first | decide +kernel | kernel_rfl))
              | (refine gate 1 rfl ?_; first
                | refine callB (h1) rfl rfl rfl rfl rfl rfl rfl rfl rfl ⟨⟨rfl, trivial⟩, trivial⟩ ⟨rfl, rfl, rfl, trivial⟩ rfl rfl rfl rfl rfl rfl rfl rfl ?_
                | refine callB (h2) rfl rfl rfl rfl rfl rfl rfl rfl rfl ⟨rfl, trivial⟩ ⟨rfl, rfl, rfl, trivial⟩ rfl rfl rfl rfl rfl rfl rfl rfl ?_
                | refine callB (hq1) rfl rfl rfl rfl rfl rfl rfl rfl rfl ⟨rfl, trivial⟩ ⟨rfl, rfl, rfl, trivial⟩ rfl rfl rfl rfl rfl rfl rfl rfl ?_
                | refine callB (hr) rfl rfl rfl rfl rfl rfl rfl rfl rfl ⟨⟨rfl, trivial⟩, trivial⟩ ⟨rfl, rfl, rfl, trivial⟩ rfl rfl rfl rfl rfl rfl rfl rfl ?_
                | refine callB (h3) rfl rfl rfl rfl rfl rfl rfl rfl rfl ⟨rfl, trivial⟩ ⟨rfl, rfl, rfl, trivial⟩ rfl rfl rfl rfl rfl rfl rfl rfl ?_)
              | (refine gate 5 rfl ?_; first
                | refine litR rfl rfl rfl rfl rfl rfl rfl rfl ?_
                | refine litW rfl rfl rfl rfl rfl rfl ?_)
              | (refine gate 0 rfl ?_; refine op_storeD rfl rfl rfl rfl rfl rfl rfl rfl rfl rfl ?_)
              | (refine gate 8 rfl ?_; refine op_mkFn rfl rfl rfl rfl ?_)
              | (refine gate 7 rfl ?_; refine op_nil rfl rfl rfl rfl rfl rfl (fun b hb => ?_))
              | (refine inW ?_; first
                | refine W_seq ?_
                | refine W_region ?_
                | refine W_drawN (by decide +kernel) ?_
                | refine W_block ?_
                | refine W_skip ?_
                | refine W_exit ?_
                | refine W_ret ?_
                | refine W_condT rfl rfl ?_
                | refine W_condF rfl rfl ?_
                | (refine W_condB rfl ?_ ?_ <;> intro hq <;> try (exfalso; (simp_all) <;> omega)))
              | (refine inE ?_; first
                | refine end_d rfl rfl rfl rfl ?_ ?_
                | refine end_o rfl rfl rfl rfl ?_ ?_
                | refine end_of rfl rfl rfl ?_ ?_)
              | refine rsOne ?_
              | refine msPd rfl ?_
              | refine msPn ?_
              | refine msPo rfl ?_
              | refine And.intro ?_ ?_
              | (show List.length _ ≠ 1; simp)
              | (show (_ : Int) ≤ _; first | omega | (simp [IntKind.bits, dflt] <;> omega) | (simp at *; omega))
              | (show (_ : Int) < _; first | omega | (simp [IntKind.bits, dflt] <;> omega) | (simp at *; omega))
              | (show (_ : Nat) ≤ _; first | omega | (unfold maxLen; omega) | (simp [IntKind.bits, dflt] <;> omega) | (simp at *; omega))
              | rfl)
          | false =>
            rw [hb3] at h3
            refine ⟨((p1.1.1, IntKind.i64.wrap (r.1 - p1.1.1), p4.1), p4.2), by simp only; omega, n14.mono (by decide), ?_⟩
            refine FnC_of (fn := Tryd.f48) Tryd.func48 rfl rfl rfl ?_
            repeat' (first
              | exact trivial
              | (refine inWO ?_; first
                | refine WO_runE (nw := false) rfl rfl ?_ ?_
                | refine WO_runG (nw := false) rfl rfl rfl rfl rfl ?_ ?_
                | refine WO_runU (nw := false) rfl rfl rfl rfl rfl ?_ ?_
                | refine WO_run1 (nw := false) rfl rfl ?_ ?_
                | refine WO_cons rfl ?_
                | refine WO_gT rfl rfl rfl rfl rfl ?_
                | (refine WO_split rfl rfl rfl rfl ?_ ?_ <;> intro hq <;> try (exfalso; (simp_all) <;> omega))
                | refine WO_nil ?_)
              | (refine inRW ?_; first
                | refine RW_runE (nw := false) rfl rfl (fun _ _ => rfl) rfl ?_ ?_
                | refine RW_runG (nw := false) rfl rfl rfl rfl rfl (fun _ _ => rfl) rfl ?_ ?_
                | refine RW_runU (nw := false) rfl rfl rfl rfl rfl (fun _ _ => rfl) rfl ?_ ?_
                | refine RW_op (us := ?_) (ub := ?_) (fp := ?_) rfl (fun s0 b0 => ?_) ?_ ?_
                | refine RW_opT (us := ?_) (ub := ?_) (fp := ?_) rfl rfl rfl rfl (fun s0 b0 => ?_) ?_ ?_
                | (refine RW_split rfl rfl rfl ?_ ?_ <;> intro hq <;> try (exfalso; (simp_all) <;> omega))
                | refine RW_nil ?_ (by first | decide +kernel | kernel_rfl))
              | (refine gate 1 rfl ?_; first
                | refine callD false (hro) rfl rfl rfl rfl (by (repeat' (first | exact trivial | refine And.intro ?_ ?_ | rfl)); done) rfl rfl ?_)
              | (refine gate 5 rfl ?_; first
                | refine litR rfl rfl rfl rfl rfl rfl rfl rfl ?_
                | refine litW rfl rfl rfl rfl rfl rfl ?_)
              | (refine gate 0 rfl ?_; refine op_storeD rfl rfl rfl rfl rfl rfl rfl rfl rfl rfl ?_)
              | (refine gate 8 rfl ?_; refine op_mkFn rfl rfl rfl rfl ?_)
              | (refine gate 7 rfl ?_; refine op_nil rfl rfl rfl rfl rfl rfl (fun b hb => ?_))
              | (refine inW ?_; first
                | refine W_seq ?_
                | refine W_region ?_
                | refine W_drawN (by decide +kernel) ?_
                | refine W_block ?_
                | refine W_skip ?_
                | refine W_exit ?_
                | refine W_ret ?_
                | refine W_condT rfl rfl ?_
                | refine W_condF rfl rfl ?_
                | (refine W_condB rfl ?_ ?_ <;> intro hq <;> try (exfalso; (simp_all) <;> omega)))
              | (refine inE ?_; first
                | refine end_d rfl rfl rfl rfl ?_ ?_
                | refine end_o rfl rfl rfl rfl ?_ ?_
                | refine end_of rfl rfl rfl ?_ ?_)
              | refine rsOne ?_
              | refine msPd rfl ?_
              | refine msPn ?_
              | refine msPo rfl ?_
              | refine And.intro ?_ ?_
              | (show List.length _ ≠ 1; simp)
              | (show (_ : Int) ≤ _; first | omega | (simp [IntKind.bits, dflt] <;> omega) | (simp at *; omega))
              | (show (_ : Int) < _; first | omega | (simp [IntKind.bits, dflt] <;> omega) | (simp at *; omega))
              | (show (_ : Nat) ≤ _; first | omega | (unfold maxLen; omega) | (simp [IntKind.bits, dflt] <;> omega) | (simp at *; omega))
              | rfl)
            refine OpW_weak (Wk_freeze (o := 13000) rfl) ?_
            repeat' (first
              | exact trivial
              | (refine inWO ?_; first
                | refine WO_runE (nw := false) rfl rfl ?_ ?_
                | refine WO_runG (nw := false) rfl rfl rfl rfl rfl ?_ ?_
                | refine WO_runU (nw := false) rfl rfl rfl rfl rfl ?_ ?_
                | refine WO_run1 (nw := false) rfl rfl ?_ ?_
                | refine WO_cons rfl ?_
                | refine WO_gT rfl rfl rfl rfl rfl ?_
                | (refine WO_split rfl rfl rfl rfl ?_ ?_ <;> intro hq <;> try (exfalso; (simp_all) <;> omega))
                | refine WO_nil ?_)
              | (refine inRW ?_; first
                | refine RW_runE (nw := false) rfl rfl (fun _ _ => rfl) rfl ?_ ?_
                | refine RW_runG (nw := false) rfl rfl rfl rfl rfl (fun _ _ => rfl) rfl ?_ ?_
                | refine RW_runU (nw := false) rfl rfl rfl rfl rfl (fun _ _ => rfl) rfl ?_ ?_
                | refine RW_op (us := ?_) (ub := ?_) (fp := ?_) rfl (fun s0 b0 => ?_) ?_ ?_
                | refine RW_opT (us := ?_) (ub := ?_) (fp := ?_) rfl rfl rfl rfl (fun s0 b0 => ?_) ?_ ?_
                | (refine RW_split rfl rfl rfl ?_ ?_ <;> intro hq <;> try (exfalso; (simp_all) <;> omega))
                | refine RW_nil ?_ (by first | decide +kernel | kernel_rfl))
              | (refine gate 1 rfl ?_; first
                | refine callB (h1) rfl rfl rfl rfl rfl rfl rfl rfl rfl ⟨⟨rfl, trivial⟩, trivial⟩ ⟨rfl, rfl, rfl, trivial⟩ rfl rfl rfl rfl rfl rfl rfl rfl ?_
                | refine callB (h2) rfl rfl rfl rfl rfl rfl rfl rfl rfl ⟨rfl, trivial⟩ ⟨rfl, rfl, rfl, trivial⟩ rfl rfl rfl rfl rfl rfl rfl rfl ?_
                | refine callB (hq1) rfl rfl rfl rfl rfl rfl rfl rfl rfl ⟨rfl, trivial⟩ ⟨rfl, rfl, rfl, trivial⟩ rfl rfl rfl rfl rfl rfl rfl rfl ?_
                | refine callB (hr) rfl rfl rfl rfl rfl rfl rfl rfl rfl ⟨⟨rfl, trivial⟩, trivial⟩ ⟨rfl, rfl, rfl, trivial⟩ rfl rfl rfl rfl rfl rfl rfl rfl ?_
                | refine callB (h3) rfl rfl rfl rfl rfl rfl rfl rfl rfl ⟨rfl, trivial⟩ ⟨rfl, rfl, rfl, trivial⟩ rfl rfl rfl rfl rfl rfl rfl rfl ?_
                | refine callB (h4) rfl rfl rfl rfl rfl rfl rfl rfl rfl ⟨rfl, trivial⟩ ⟨rfl, rfl, rfl, trivial⟩ rfl rfl rfl rfl rfl rfl rfl rfl ?_)
              | (refine gate 5 rfl ?_; first
                | refine litR rfl rfl rfl rfl rfl rfl rfl rfl ?_
                | refine litW rfl rfl rfl rfl rfl rfl ?_)
              | (refine gate 0 rfl ?_; refine op_storeD rfl rfl rfl rfl rfl rfl rfl rfl rfl rfl ?_)
              | (refine gate 8 rfl ?_; refine op_mkFn rfl rfl rfl rfl ?_)
              | (refine gate 7 rfl ?_; refine op_nil rfl rfl rfl rfl rfl rfl (fun b hb => ?_))
              | (refine inW ?_; first
                | refine W_seq ?_
                | refine W_region ?_
                | refine W_drawN (by decide +kernel) ?_
                | refine W_block ?_
                | refine W_skip ?_
                | refine W_exit ?_
                | refine W_ret ?_
                | refine W_condT rfl rfl ?_
                | refine W_condF rfl rfl ?_
                | (refine W_condB rfl ?_ ?_ <;> intro hq <;> try (exfalso; (simp_all) <;> omega)))
              | (refine inE ?_; first
                | refine end_d rfl rfl rfl rfl ?_ ?_
                | refine end_o rfl rfl rfl rfl ?_ ?_
                | refine end_of rfl rfl rfl ?_ ?_)
              | refine rsOne ?_
              | refine msPd rfl ?_
              | refine msPn ?_
              | refine msPo rfl ?_
              | refine And.intro ?_ ?_
              | (show List.length _ ≠ 1; simp)
              | (show (_ : Int) ≤ _; first | omega | (simp [IntKind.bits, dflt] <;> omega) | (simp at *; omega))
              | (show (_ : Int) < _; first | omega | (simp [IntKind.bits, dflt] <;> omega) | (simp at *; omega))
              | (show (_ : Nat) ≤ _; first | omega | (unfold maxLen; omega) | (simp [IntKind.bits, dflt] <;> omega) | (simp at *; omega))
              | rfl)
    · obtain ⟨p3, n3, h3⟩ := once_ex code p2.2.1 p2.2.2 3 hl ((n12).next hc.a0 (by omega)) (by decide)
      have n13 := (n12).trans n3
      have c3 := n13.next hc.a0 (by omega)
      have e3 := n13.a1
      obtain ⟨p4, b4, n4, h4⟩ := text_ex code p3.2.1 p3.2.2 6 hl c3 (by omega) (by decide)
      have n14 := n13.trans n4
      cases hb3 : p3.1 with
      | true =>
        rw [hb3] at h3
        refine ⟨((p1.1.1, IntKind.i64.wrap (p1.1.2 - p1.1.1), []), p3.2), by simp, n13.mono (by decide), ?_⟩
        refine FnC_of (fn := Tryd.f48) Tryd.func48 rfl rfl rfl ?_
        repeat' (first
          | exact trivial
          | (refine inWO ?_; first
            | refine WO_runE (nw := false) rfl rfl ?_ ?_
            | refine WO_runG (nw := false) rfl rfl rfl rfl rfl ?_ ?_
            | refine WO_runU (nw := false) rfl rfl rfl rfl rfl ?_ ?_
            | refine WO_run1 (nw := false) rfl rfl ?_ ?_
            | refine WO_cons rfl ?_
            | refine WO_gT rfl rfl rfl rfl rfl ?_
            | (refine WO_split rfl rfl rfl rfl ?_ ?_ <;> intro hq <;> try (exfalso; (simp_all) <;> omega))
            | refine WO_nil ?_)
          | (refine inRW ?_; first
            | refine RW_runE (nw := false) rfl rfl (fun _ _ => rfl) rfl ?_ ?_
            | refine RW_runG (nw := false) rfl rfl rfl rfl rfl (fun _ _ => rfl) rfl ?_ ?_
            | refine RW_runU (nw := false) rfl rfl rfl rfl rfl (fun _ _ => rfl) rfl ?_ ?_
            | refine RW_op (us := ?_) (ub := ?_) (fp := ?_) rfl (fun s0 b0 => ?_) ?_ ?_
            | refine RW_opT (us := ?_) (ub := ?_) (fp := ?_) rfl rfl rfl rfl (fun s0 b0 => ?_) ?_ ?_
            | (refine RW_split rfl rfl rfl ?_ ?_ <;> intro hq <;> try (exfalso; (simp_all) <;> omega))
            | refine RW_nil ?_ (by first | decide +kernel | kernel_rfl))
          | (refine gate 1 rfl ?_; first
            | refine callD false (hro) rfl rfl rfl rfl (by (repeat' (first | exact trivial | refine And.intro ?_ ?_ | rfl)); done) rfl rfl ?_)
          | (refine gate 5 rfl ?_; first
            | refine litR rfl rfl rfl rfl rfl rfl rfl rfl ?_
            | refine litW rfl rfl rfl rfl rfl rfl ?_)
          | (refine gate 0 rfl ?_; refine op_storeD rfl rfl rfl rfl rfl rfl rfl rfl rfl rfl ?_)
          | (refine gate 8 rfl ?_; refine op_mkFn rfl rfl rfl rfl ?_)
          | (refine gate 7 rfl ?_; refine op_nil rfl rfl rfl rfl rfl rfl (fun b hb => ?_))
          | (refine inW ?_; first
            | refine W_seq ?_
            | refine W_region ?_
            | refine W_drawN (by decide +kernel) ?_
            | refine W_block ?_
            | refine W_skip ?_
            | refine W_exit ?_
            | refine W_ret ?_
            | refine W_condT rfl rfl ?_
            | refine W_condF rfl rfl ?_
            | (refine W_condB rfl ?_ ?_ <;> intro hq <;> try (exfalso; (simp_all) <;> omega)))
          | (refine inE ?_; first
            | refine end_d rfl rfl rfl rfl ?_ ?_
            | refine end_o rfl rfl rfl rfl ?_ ?_
            | refine end_of rfl rfl rfl ?_ ?_)
          | refine rsOne ?_
          | refine msPd rfl ?_
          | refine msPn ?_
          | refine msPo rfl ?_
          | refine And.intro ?_ ?_
          | (show List.length _ ≠ 1; simp)
          | (show (_ : Int) ≤ _; first | omega | (simp [IntKind.bits, dflt] <;> omega) | (simp at *; omega))
          | (show (_ : Int) < _; first | omega | (simp [IntKind.bits, dflt] <;> omega) | (simp at *; omega))
          | (show (_ : Nat) ≤ _; first | omega | (unfold maxLen; omega) | (simp [IntKind.bits, dflt] <;> omega) | (simp at *; omega))
          | rfl)
        refine OpW_weak (Wk_freeze (o := 13000) rfl) ?_
        repeat' (first
          | exact trivial
          | (refine inWO ?_; first
            | refine WO_runE (nw := false) rfl rfl ?_ ?_
            | refine WO_runG (nw := false) rfl rfl rfl rfl rfl ?_ ?_
            | refine WO_runU (nw := false) rfl rfl rfl rfl rfl ?_ ?_
            | refine WO_run1 (nw := false) rfl rfl ?_ ?_
            | refine WO_cons rfl ?_
            | refine WO_gT rfl rfl rfl rfl rfl ?_
            | (refine WO_split rfl rfl rfl rfl ?_ ?_ <;> intro hq <;> try (exfalso; (simp_all) <;> omega))
            | refine WO_nil ?_)
          | (refine inRW ?_; first
            | refine RW_runE (nw := false) rfl rfl (fun _ _ => rfl) rfl ?_ ?_
            | refine RW_runG (nw := false) rfl rfl rfl rfl rfl (fun _ _ => rfl) rfl ?_ ?_
            | refine RW_runU (nw := false) rfl rfl rfl rfl rfl (fun _ _ => rfl) rfl ?_ ?_
            | refine RW_op (us := ?_) (ub := ?_) (fp := ?_) rfl (fun s0 b0 => ?_) ?_ ?_
            | refine RW_opT (us := ?_) (ub := ?_) (fp := ?_) rfl rfl rfl rfl (fun s0 b0 => ?_) ?_ ?_
            | (refine RW_split rfl rfl rfl ?_ ?_ <;> intro hq <;> try (exfalso; (simp_all) <;> omega))
            | refine RW_nil ?_ (by first | decide +kernel | kernel_rfl))
          | (refine gate 1 rfl ?_; first
            | refine callB (h1) rfl rfl rfl rfl rfl rfl rfl rfl rfl ⟨⟨rfl, trivial⟩, trivial⟩ ⟨rfl, rfl, rfl, trivial⟩ rfl rfl rfl rfl rfl rfl rfl rfl ?_
            | refine callB (h2) rfl rfl rfl rfl rfl rfl rfl rfl rfl ⟨rfl, trivial⟩ ⟨rfl, rfl, rfl, trivial⟩ rfl rfl rfl rfl rfl rfl rfl rfl ?_
            | refine callB (h3) rfl rfl rfl rfl rfl rfl rfl rfl rfl ⟨rfl, trivial⟩ ⟨rfl, rfl, rfl, trivial⟩ rfl rfl rfl rfl rfl rfl rfl rfl ?_)
          | (refine gate 5 rfl ?_; first
            | refine litR rfl rfl rfl rfl rfl rfl rfl rfl ?_
            | refine litW rfl rfl rfl rfl rfl rfl ?_)
          | (refine gate 0 rfl ?_; refine op_storeD rfl rfl rfl rfl rfl rfl rfl rfl rfl rfl ?_)
          | (refine gate 8 rfl ?_; refine op_mkFn rfl rfl rfl rfl ?_)
          | (refine gate 7 rfl ?_; refine op_nil rfl rfl rfl rfl rfl rfl (fun b hb => ?_))
          | (refine inW ?_; first
            | refine W_seq ?_
            | refine W_region ?_
            | refine W_drawN (by decide +kernel) ?_
            | refine W_block ?_
            | refine W_skip ?_
            | refine W_exit ?_
            | refine W_ret ?_
            | refine W_condT rfl rfl ?_
            | refine W_condF rfl rfl ?_
            | (refine W_condB rfl ?_ ?_ <;> intro hq <;> try (exfalso; (simp_all) <;> omega)))
          | (refine inE ?_; first
            | refine end_d rfl rfl rfl rfl ?_ ?_
            | refine end_o rfl rfl rfl rfl ?_ ?_
            | refine end_of rfl rfl rfl ?_ ?_)
          | refine rsOne ?_
          | refine msPd rfl ?_
          | refine msPn ?_
          | refine msPo rfl ?_
          | refine And.intro ?_ ?_
          | (show List.length _ ≠ 1; simp)
          | (show (_ : Int) ≤ _; first | omega | (simp [IntKind.bits, dflt] <;> omega) | (simp at *; omega))
          | (show (_ : Int) < _; first | omega | (simp [IntKind.bits, dflt] <;> omega) | (simp at *; omega))
          | (show (_ : Nat) ≤ _; first | omega | (unfold maxLen; omega) | (simp [IntKind.bits, dflt] <;> omega) | (simp at *; omega))
          | rfl)
      | false =>
        rw [hb3] at h3
        refine ⟨((p1.1.1, IntKind.i64.wrap (p1.1.2 - p1.1.1), p4.1), p4.2), by simp only; omega, n14.mono (by decide), ?_⟩
        refine FnC_of (fn := Tryd.f48) Tryd.func48 rfl rfl rfl ?_
        repeat' (first
          | exact trivial
          | (refine inWO ?_; first
            | refine WO_runE (nw := false) rfl rfl ?_ ?_
            | refine WO_runG (nw := false) rfl rfl rfl rfl rfl ?_ ?_
            | refine WO_runU (nw := false) rfl rfl rfl rfl rfl ?_ ?_
            | refine WO_run1 (nw := false) rfl rfl ?_ ?_
            | refine WO_cons rfl ?_
            | refine WO_gT rfl rfl rfl rfl rfl ?_
            | (refine WO_split rfl rfl rfl rfl ?_ ?_ <;> intro hq <;> try (exfalso; (simp_all) <;> omega))
            | refine WO_nil ?_)
          | (refine inRW ?_; first
            | refine RW_runE (nw := false) rfl rfl (fun _ _ => rfl) rfl ?_ ?_
            | refine RW_runG (nw := false) rfl rfl rfl rfl rfl (fun _ _ => rfl) rfl ?_ ?_
            | refine RW_runU (nw := false) rfl rfl rfl rfl rfl (fun _ _ => rfl) rfl ?_ ?_
            | refine RW_op (us := ?_) (ub := ?_) (fp := ?_) rfl (fun s0 b0 => ?_) ?_ ?_
            | refine RW_opT (us := ?_) (ub := ?_) (fp := ?_) rfl rfl rfl rfl (fun s0 b0 => ?_) ?_ ?_
            | (refine RW_split rfl rfl rfl ?_ ?_ <;> intro hq <;> try (exfalso; (simp_all) <;> omega))
            | refine RW_nil ?_ (by first | decide +kernel | kernel_rfl))
          | (refine gate 1 rfl ?_; first
            | refine callD false (hro) rfl rfl rfl rfl (by (repeat' (first | exact trivial | refine And.intro ?_ ?_ | rfl)); done) rfl rfl ?_)
          | (refine gate 5 rfl ?_; first
            | refine litR rfl rfl rfl rfl rfl rfl rfl rfl ?_
            | refine litW rfl rfl rfl rfl rfl rfl ?_)
          | (refine gate 0 rfl ?_; refine op_storeD rfl rfl rfl rfl rfl rfl rfl rfl rfl rfl ?_)
          | (refine gate 8 rfl ?_; refine op_mkFn rfl rfl rfl rfl ?_)
          | (refine gate 7 rfl ?_; refine op_nil rfl rfl rfl rfl rfl rfl (fun b hb => ?_))
          | (refine inW ?_; first
            | refine W_seq ?_
            | refine W_region ?_
            | refine W_drawN (by decide +kernel) ?_
            | refine W_block ?_
            | refine W_skip ?_
            | refine W_exit ?_
            | refine W_ret ?_
            | refine W_condT rfl rfl ?_
            | refine W_condF rfl rfl ?_
            | (refine W_condB rfl ?_ ?_ <;> intro hq <;> try (exfalso; (simp_all) <;> omega)))
          | (refine inE ?_; first
            | refine end_d rfl rfl rfl rfl ?_ ?_
            | refine end_o rfl rfl rfl rfl ?_ ?_
            | refine end_of rfl rfl rfl ?_ ?_)
          | refine rsOne ?_
          | refine msPd rfl ?_
          | refine msPn ?_
          | refine msPo rfl ?_
          | refine And.intro ?_ ?_
          | (show List.length _ ≠ 1; simp)
          | (show (_ : Int) ≤ _; first | omega | (simp [IntKind.bits, dflt] <;> omega) | (simp at *; omega))
          | (show (_ : Int) < _; first | omega | (simp [IntKind.bits, dflt] <;> omega) | (simp at *; omega))
          | (show (_ : Nat) ≤ _; first | omega | (unfold maxLen; omega) | (simp [IntKind.bits, dflt] <;> omega) | (simp at *; omega))
          | rfl)
        refine OpW_weak (Wk_freeze (o := 13000) rfl) ?_
        repeat' (first
          | exact trivial
          | (refine inWO ?_; first
            | refine WO_runE (nw := false) rfl rfl ?_ ?_
            | refine WO_runG (nw := false) rfl rfl rfl rfl rfl ?_ ?_
            | refine WO_runU (nw := false) rfl rfl rfl rfl rfl ?_ ?_
            | refine WO_run1 (nw := false) rfl rfl ?_ ?_
            | refine WO_cons rfl ?_
            | refine WO_gT rfl rfl rfl rfl rfl ?_
            | (refine WO_split rfl rfl rfl rfl ?_ ?_ <;> intro hq <;> try (exfalso; (simp_all) <;> omega))
            | refine WO_nil ?_)
          | (refine inRW ?_; first
            | refine RW_runE (nw := false) rfl rfl (fun _ _ => rfl) rfl ?_ ?_
            | refine RW_runG (nw := false) rfl rfl rfl rfl rfl (fun _ _ => rfl) rfl ?_ ?_
            | refine RW_runU (nw := false) rfl rfl rfl rfl rfl (fun _ _ => rfl) rfl ?_ ?_
            | refine RW_op (us := ?_) (ub := ?_) (fp := ?_) rfl (fun s0 b0 => ?_) ?_ ?_
            | refine RW_opT (us := ?_) (ub := ?_) (fp := ?_) rfl rfl rfl rfl (fun s0 b0 => ?_) ?_ ?_
            | (refine RW_split rfl rfl rfl ?_ ?_ <;> intro hq <;> try (exfalso; (simp_all) <;> omega))
            | refine RW_nil ?_ (by first | decide +kernel | kernel_rfl))
          | (refine gate 1 rfl ?_; first
            | refine callB (h1) rfl rfl rfl rfl rfl rfl rfl rfl rfl ⟨⟨rfl, trivial⟩, trivial⟩ ⟨rfl, rfl, rfl, trivial⟩ rfl rfl rfl rfl rfl rfl rfl rfl ?_
            | refine callB (h2) rfl rfl rfl rfl rfl rfl rfl rfl rfl ⟨rfl, trivial⟩ ⟨rfl, rfl, rfl, trivial⟩ rfl rfl rfl rfl rfl rfl rfl rfl ?_
            | refine callB (h3) rfl rfl rfl rfl rfl rfl rfl rfl rfl ⟨rfl, trivial⟩ ⟨rfl, rfl, rfl, trivial⟩ rfl rfl rfl rfl rfl rfl rfl rfl ?_
            | refine callB (h4) rfl rfl rfl rfl rfl rfl rfl rfl rfl ⟨rfl, trivial⟩ ⟨rfl, rfl, rfl, trivial⟩ rfl rfl rfl rfl rfl rfl rfl rfl ?_)
          | (refine gate 5 rfl ?_; first
            | refine litR rfl rfl rfl rfl rfl rfl rfl rfl ?_
            | refine litW rfl rfl rfl rfl rfl rfl ?_)
          | (refine gate 0 rfl ?_; refine op_storeD rfl rfl rfl rfl rfl rfl rfl rfl rfl rfl ?_)
          | (refine gate 8 rfl ?_; refine op_mkFn rfl rfl rfl rfl ?_)
          | (refine gate 7 rfl ?_; refine op_nil rfl rfl rfl rfl rfl rfl (fun b hb => ?_))
          | (refine inW ?_; first
            | refine W_seq ?_
            | refine W_region ?_
            | refine W_drawN (by decide +kernel) ?_
            | refine W_block ?_
            | refine W_skip ?_
            | refine W_exit ?_
            | refine W_ret ?_
            | refine W_condT rfl rfl ?_
            | refine W_condF rfl rfl ?_
            | (refine W_condB rfl ?_ ?_ <;> intro hq <;> try (exfalso; (simp_all) <;> omega)))
          | (refine inE ?_; first
            | refine end_d rfl rfl rfl rfl ?_ ?_
            | refine end_o rfl rfl rfl rfl ?_ ?_
            | refine end_of rfl rfl rfl ?_ ?_)
          | refine rsOne ?_
          | refine msPd rfl ?_
          | refine msPn ?_
          | refine msPo rfl ?_
          | refine And.intro ?_ ?_
          | (show List.length _ ≠ 1; simp)
          | (show (_ : Int) ≤ _; first | omega | (simp [IntKind.bits, dflt] <;> omega) | (simp at *; omega))
          | (show (_ : Int) < _; first | omega | (simp [IntKind.bits, dflt] <;> omega) | (simp at *; omega))
          | (show (_ : Nat) ≤ _; first | omega | (unfold maxLen; omega) | (simp [IntKind.bits, dflt] <;> omega) | (simp at *; omega))
          | rfl)
end Go.LX
