/- A part of the proof of the statement in the row text. -/
import Derived.Test.YtojaiockbpcilaaDoorLzE4
set_option linter.unusedVariables false
set_option linter.unusedSimpArgs false
namespace Go.LX
open Go.Proofs
attribute [local irreducible] W WO OpW RW EndQ
set_option maxHeartbeats 4000000 in
set_option maxRecDepth 20000 in
theorem place_ex (code : List UInt8) (a s n : Int) (hl : code.length ≤ 16777216) (hc : CuB a s) (ha : a ≤ 900000000) (hn : 0 ≤ n ∧ n ≤ 100000) : ∃ r : Int × Int × Int, CuN a s r.2.1 r.2.2 5 ∧ FnC Tryd.prog 108 [aCur code a s, aI n] [aCur code r.2.1 r.2.2, aX] (.one (sI r.1)) := by
  obtain ⟨p1, b1, n1, h1⟩ := pick_ex code a s (max 1 (n + 1)) hl hc
  have c1 := n1.next hc.a0 (by omega)
  obtain ⟨p2, b2, n2, h2⟩ := pick_ex code p1.2.1 p1.2.2 (max 1 (n + 1)) hl c1
  have n12 := n1.trans n2
  have c2 := n12.next hc.a0 (by omega)
  have e2 := n12.a1
  obtain ⟨p3, n3, h3⟩ := raw_ex code p2.2.1 p2.2.2 hl c2 (by omega)
  have n13 := n12.trans n3
  have c3 := n13.next hc.a0 (by omega)
  obtain ⟨p4, b4, n4, h4⟩ := pick_ex code p3.2.1 p3.2.2 5 hl c3
  have n14 := n13.trans n4
  have b4' := b4.2.1 (by decide)
  refine ⟨(([p1.1, p2.1, n, n + 1, p3.1] : List Int).getD p4.1.toNat 0, p4.2), n14, ?_⟩
  refine FnC_of (fn := Tryd.f108) Tryd.func108 rfl rfl rfl ?_
  repeat' (first
    | exact trivial
    | (refine inWO ?_; first
      | refine WO_runE (nw := true) rfl rfl ?_ ?_
      | refine WO_runG (nw := true) rfl rfl rfl rfl rfl ?_ ?_
      | refine WO_runU (nw := true) rfl rfl rfl rfl rfl ?_ ?_
      | refine WO_run1 (nw := true) rfl rfl ?_ ?_
      | refine WO_cons rfl ?_
      | refine WO_gT rfl rfl rfl rfl rfl ?_
      | (refine WO_split rfl rfl rfl rfl ?_ ?_ <;> intro hq <;> try (exfalso; (simp_all) <;> omega))
      | refine WO_nil ?_)
    | (refine inRW ?_; first
      | refine RW_runE (nw := true) rfl rfl (fun _ _ => rfl) rfl ?_ ?_
      | refine RW_runG (nw := true) rfl rfl rfl rfl rfl (fun _ _ => rfl) rfl ?_ ?_
      | refine RW_runU (nw := true) rfl rfl rfl rfl rfl (fun _ _ => rfl) rfl ?_ ?_
      | refine RW_op (us := ?_) (ub := ?_) (fp := ?_) rfl (fun s0 b0 => ?_) ?_ ?_
      | refine RW_opT (us := ?_) (ub := ?_) (fp := ?_) rfl rfl rfl rfl (fun s0 b0 => ?_) ?_ ?_
      | (refine RW_split rfl rfl rfl ?_ ?_ <;> intro hq <;> try (exfalso; (simp_all) <;> omega))
      | refine RW_nil ?_ (by first | decide +kernel | kernel_rfl))
    | (refine gate 1 rfl ?_; first
      | refine callB (h1) rfl rfl rfl rfl rfl rfl rfl rfl rfl ⟨rfl, trivial⟩ ⟨rfl, rfl, rfl, trivial⟩ rfl rfl rfl rfl rfl rfl rfl rfl ?_
      | refine callB (h2) rfl rfl rfl rfl rfl rfl rfl rfl rfl ⟨rfl, trivial⟩ ⟨rfl, rfl, rfl, trivial⟩ rfl rfl rfl rfl rfl rfl rfl rfl ?_
      | refine callB (h3) rfl rfl rfl rfl rfl rfl rfl rfl rfl trivial ⟨rfl, rfl, rfl, trivial⟩ rfl rfl rfl rfl rfl rfl rfl rfl ?_
      | refine callB (h4) rfl rfl rfl rfl rfl rfl rfl rfl rfl ⟨rfl, trivial⟩ ⟨rfl, rfl, rfl, trivial⟩ rfl rfl rfl rfl rfl rfl rfl rfl ?_)
    | (refine gate 5 rfl ?_; first
      | refine litRF rfl rfl rfl rfl rfl rfl rfl rfl ?_
      | refine litR rfl rfl rfl rfl rfl rfl rfl rfl ?_
      | refine litW rfl rfl rfl rfl rfl rfl ?_)
    | (refine gate 0 rfl ?_; refine op_storeD rfl rfl rfl rfl rfl rfl rfl rfl rfl rfl ?_)
    | (refine gate 8 rfl ?_; refine op_mkFn rfl rfl rfl rfl ?_)
    | (refine gate 7 rfl ?_; refine op_nil rfl rfl rfl rfl rfl rfl (fun b hb => ?_))
    | (refine inW ?_; first
      | refine W_seq ?_
      | refine W_region ?_
      | refine W_drawN (by decide +kernel) ?_
      | refine W_block ?_
      | refine W_skip ?_
      | refine W_exit ?_
      | refine W_ret ?_
      | refine W_condT rfl rfl ?_
      | refine W_condF rfl rfl ?_
      | (refine W_condB rfl ?_ ?_ <;> intro hq <;> try (exfalso; (simp_all) <;> omega)))
    | (refine inE ?_; first
      | refine end_d rfl rfl rfl rfl ?_ ?_
      | refine end_o rfl rfl rfl rfl ?_ ?_
      | refine end_of rfl rfl rfl ?_ ?_)
    | refine rsOne ?_
    | refine msPd rfl ?_
    | refine msPn ?_
    | refine msPo rfl ?_
    | refine And.intro ?_ ?_
    | (show List.length _ ≠ 1; simp)
    | (show (_ : Int) ≤ _; first | omega | (simp [IntKind.bits, dflt] <;> omega) | (simp at *; omega))
    | (show (_ : Int) < _; first | omega | (simp [IntKind.bits, dflt] <;> omega) | (simp at *; omega))
    | (show (_ : Nat) ≤ _; first | omega | (unfold maxLen; omega) | (simp [IntKind.bits, dflt] <;> omega) | (simp at *; omega))
    | rfl)
set_option maxHeartbeats 4000000 in
set_option maxRecDepth 20000 in
theorem cutof_ex (code : List UInt8) (a s : Int) (cs : List (List UInt8)) (hl : code.length ≤ 16777216) (hc : CuB a s) (ha : a ≤ 800000000) (hn : cs.length ≤ 16777216) (hm : ∀ d ∈ cs, d.length ≤ 16777216) : ∃ r : Int × Int × Int, CuN a s r.2.1 r.2.2 6 ∧ FnC Tryd.prog 88 [aCur code a s, .ag [sChs cs]] [aCur code r.2.1 r.2.2, .ag [.any]] (.one (sI r.1)) := by
  have hT := chT_len (cs := cs)
  have hT' : (chT cs).length ≤ 16777216 := by omega
  have hC := cuL_len hT'
  by_cases h0 : 0 < (cuL (chT cs)).length
  · obtain ⟨p1, n1, h1⟩ := once_ex code a s 9 hl hc (by decide)
    have c1 := n1.next hc.a0 (by omega)
    have e1 := n1.a1
    cases hb : p1.1 with
    | false =>
      obtain ⟨p2, b2, n2, h2⟩ := pick_ex code p1.2.1 p1.2.2 (min 256 ((cuL (chT cs)).length : Int)) hl c1
      have b2' : p2.1 < (cuL (chT cs)).length := by
        by_cases q : 2 ≤ min 256 ((cuL (chT cs)).length : Int)
        · have := b2.2.1 q; omega
        · have := b2.2.2 (by omega); omega
      have b20 := b2.1
      refine ⟨((cuL (chT cs)).getD p2.1.toNat 0, p2.2), (n1.trans n2).mono (by decide), ?_⟩
      rw [hb] at h1
      refine FnC_of (fn := Tryd.f88) Tryd.func88 rfl rfl rfl ?_
      repeat' (first
        | exact trivial
        | (refine inWO ?_; first
          | refine WO_runE (nw := true) rfl rfl ?_ ?_
          | refine WO_runG (nw := true) rfl rfl rfl rfl rfl ?_ ?_
          | refine WO_runU (nw := true) rfl rfl rfl rfl rfl ?_ ?_
          | refine WO_run1 (nw := true) rfl rfl ?_ ?_
          | refine WO_cons rfl ?_
          | refine WO_gT rfl rfl rfl rfl rfl ?_
          | (refine WO_split rfl rfl rfl rfl ?_ ?_ <;> intro hq <;> try (exfalso; (simp_all) <;> omega))
          | refine WO_nil ?_)
        | (refine inRW ?_; first
          | refine RW_runE (nw := true) rfl rfl (fun _ _ => rfl) rfl ?_ ?_
          | refine RW_runG (nw := true) rfl rfl rfl rfl rfl (fun _ _ => rfl) rfl ?_ ?_
          | refine RW_runU (nw := true) rfl rfl rfl rfl rfl (fun _ _ => rfl) rfl ?_ ?_
          | refine RW_op (us := ?_) (ub := ?_) (fp := ?_) rfl (fun s0 b0 => ?_) ?_ ?_
          | refine RW_opT (us := ?_) (ub := ?_) (fp := ?_) rfl rfl rfl rfl (fun s0 b0 => ?_) ?_ ?_
          | (refine RW_split rfl rfl rfl ?_ ?_ <;> intro hq <;> try (exfalso; (simp_all) <;> omega))
          | refine RW_nil ?_ (by first | decide +kernel | kernel_rfl))
        | (refine gate 1 rfl ?_; first
          | refine callD false (ropetext_ok cs hn hm) rfl rfl rfl rfl (by (repeat' (first | exact trivial | refine And.intro ?_ ?_ | rfl)); done) rfl rfl ?_
          | refine callD true (cuts_ok _ hT') rfl rfl rfl rfl (by (repeat' (first | exact trivial | refine And.intro ?_ ?_ | rfl)); done) rfl rfl ?_
          | refine callB (h1) rfl rfl rfl rfl rfl rfl rfl rfl rfl ⟨rfl, trivial⟩ ⟨rfl, rfl, rfl, trivial⟩ rfl rfl rfl rfl rfl rfl rfl rfl ?_
          | refine callB (h2) rfl rfl rfl rfl rfl rfl rfl rfl rfl ⟨rfl, trivial⟩ ⟨rfl, rfl, rfl, trivial⟩ rfl rfl rfl rfl rfl rfl rfl rfl ?_)
        | (refine gate 5 rfl ?_; first
          | refine litR rfl rfl rfl rfl rfl rfl rfl rfl ?_
          | refine litW rfl rfl rfl rfl rfl rfl ?_)
        | (refine gate 0 rfl ?_; refine op_storeD rfl rfl rfl rfl rfl rfl rfl rfl rfl rfl ?_)
        | (refine gate 8 rfl ?_; refine op_mkFn rfl rfl rfl rfl ?_)
        | (refine gate 7 rfl ?_; refine op_nil rfl rfl rfl rfl rfl rfl (fun b hb => ?_))
        | (refine inW ?_; first
          | refine W_seq ?_
          | refine W_region ?_
          | refine W_drawN (by decide +kernel) ?_
          | refine W_block ?_
          | refine W_skip ?_
          | refine W_exit ?_
          | refine W_ret ?_
          | refine W_condT rfl rfl ?_
          | refine W_condF rfl rfl ?_
          | (refine W_condB rfl ?_ ?_ <;> intro hq <;> try (exfalso; (simp_all) <;> omega)))
        | (refine inE ?_; first
          | refine end_d rfl rfl rfl rfl ?_ ?_
          | refine end_o rfl rfl rfl rfl ?_ ?_
          | refine end_of rfl rfl rfl ?_ ?_)
        | refine rsOne ?_
        | refine msPd rfl ?_
        | refine msPn ?_
        | refine msPo rfl ?_
        | refine And.intro ?_ ?_
        | (show List.length _ ≠ 1; simp)
        | (show (_ : Int) ≤ _; first | omega | (simp [IntKind.bits, dflt] <;> omega) | (simp at *; omega))
        | (show (_ : Int) < _; first | omega | (simp [IntKind.bits, dflt] <;> omega) | (simp at *; omega))
        | (show (_ : Nat) ≤ _; first | omega | (unfold maxLen; omega) | (simp [IntKind.bits, dflt] <;> omega) | (simp at *; omega))
        | rfl)
    | true =>
      obtain ⟨p2, n2, h2⟩ := place_ex code p1.2.1 p1.2.2 (min 200 ((chT cs).length : Int)) hl c1 (by omega) (by omega)
      refine ⟨p2, n1.trans n2, ?_⟩
      rw [hb] at h1
      refine FnC_of (fn := Tryd.f88) Tryd.func88 rfl rfl rfl ?_
      repeat' (first
        | exact trivial
        | (refine inWO ?_; first
          | refine WO_runE (nw := true) rfl rfl ?_ ?_
          | refine WO_runG (nw := true) rfl rfl rfl rfl rfl ?_ ?_
          | refine WO_runU (nw := true) rfl rfl rfl rfl rfl ?_ ?_
          | refine WO_run1 (nw := true) rfl rfl ?_ ?_
          | refine WO_cons rfl ?_
          | refine WO_gT rfl rfl rfl rfl rfl ?_
          | (refine WO_split rfl rfl rfl rfl ?_ ?_ <;> intro hq <;> try (exfalso; (simp_all) <;> omega))
          | refine WO_nil ?_)
        | (refine inRW ?_; first
          | refine RW_runE (nw := true) rfl rfl (fun _ _ => rfl) rfl ?_ ?_
          | refine RW_runG (nw := true) rfl rfl rfl rfl rfl (fun _ _ => rfl) rfl ?_ ?_
          | refine RW_runU (nw := true) rfl rfl rfl rfl rfl (fun _ _ => rfl) rfl ?_ ?_
          | refine RW_op (us := ?_) (ub := ?_) (fp := ?_) rfl (fun s0 b0 => ?_) ?_ ?_
          | refine RW_opT (us := ?_) (ub := ?_) (fp := ?_) rfl rfl rfl rfl (fun s0 b0 => ?_) ?_ ?_
          | (refine RW_split rfl rfl rfl ?_ ?_ <;> intro hq <;> try (exfalso; (simp_all) <;> omega))
          | refine RW_nil ?_ (by first | decide +kernel | kernel_rfl))
        | (refine gate 1 rfl ?_; first
          | refine callD false (ropetext_ok cs hn hm) rfl rfl rfl rfl (by (repeat' (first | exact trivial | refine And.intro ?_ ?_ | rfl)); done) rfl rfl ?_
          | refine callD true (cuts_ok _ hT') rfl rfl rfl rfl (by (repeat' (first | exact trivial | refine And.intro ?_ ?_ | rfl)); done) rfl rfl ?_
          | refine callB (h1) rfl rfl rfl rfl rfl rfl rfl rfl rfl ⟨rfl, trivial⟩ ⟨rfl, rfl, rfl, trivial⟩ rfl rfl rfl rfl rfl rfl rfl rfl ?_
          | refine callB (h2) rfl rfl rfl rfl rfl rfl rfl rfl rfl ⟨rfl, trivial⟩ ⟨rfl, rfl, rfl, trivial⟩ rfl rfl rfl rfl rfl rfl rfl rfl ?_)
        | (refine gate 5 rfl ?_; first
          | refine litR rfl rfl rfl rfl rfl rfl rfl rfl ?_
          | refine litW rfl rfl rfl rfl rfl rfl ?_)
        | (refine gate 0 rfl ?_; refine op_storeD rfl rfl rfl rfl rfl rfl rfl rfl rfl rfl ?_)
        | (refine gate 8 rfl ?_; refine op_mkFn rfl rfl rfl rfl ?_)
        | (refine gate 7 rfl ?_; refine op_nil rfl rfl rfl rfl rfl rfl (fun b hb => ?_))
        | (refine inW ?_; first
          | refine W_seq ?_
          | refine W_region ?_
          | refine W_drawN (by decide +kernel) ?_
          | refine W_block ?_
          | refine W_skip ?_
          | refine W_exit ?_
          | refine W_ret ?_
          | refine W_condT rfl rfl ?_
          | refine W_condF rfl rfl ?_
          | (refine W_condB rfl ?_ ?_ <;> intro hq <;> try (exfalso; (simp_all) <;> omega)))
        | (refine inE ?_; first
          | refine end_d rfl rfl rfl rfl ?_ ?_
          | refine end_o rfl rfl rfl rfl ?_ ?_
          | refine end_of rfl rfl rfl ?_ ?_)
        | refine rsOne ?_
        | refine msPd rfl ?_
        | refine msPn ?_
        | refine msPo rfl ?_
        | refine And.intro ?_ ?_
        | (show List.length _ ≠ 1; simp)
        | (show (_ : Int) ≤ _; first | omega | (simp [IntKind.bits, dflt] <;> omega) | (simp at *; omega))
        | (show (_ : Int) < _; first | omega | (simp [IntKind.bits, dflt] <;> omega) | (simp at *; omega))
        | (show (_ : Nat) ≤ _; first | omega | (unfold maxLen; omega) | (simp [IntKind.bits, dflt] <;> omega) | (simp at *; omega))
        | rfl)
  · obtain ⟨p2, n2, h2⟩ := place_ex code a s (min 200 ((chT cs).length : Int)) hl hc (by omega) (by omega)
    refine ⟨p2, n2.mono (by decide), ?_⟩
    refine FnC_of (fn := Tryd.f88) Tryd.func88 rfl rfl rfl ?_
    repeat' (first
      | exact trivial
      | (refine inWO ?_; first
        | refine WO_runE (nw := true) rfl rfl ?_ ?_
        | refine WO_runG (nw := true) rfl rfl rfl rfl rfl ?_ ?_
        | refine WO_runU (nw := true) rfl rfl rfl rfl rfl ?_ ?_
        | refine WO_run1 (nw := true) rfl rfl ?_ ?_
        | refine WO_cons rfl ?_
        | refine WO_gT rfl rfl rfl rfl rfl ?_
        | (refine WO_split rfl rfl rfl rfl ?_ ?_ <;> intro hq <;> try (exfalso; (simp_all) <;> omega))
        | refine WO_nil ?_)
      | (refine inRW ?_; first
        | refine RW_runE (nw := true) rfl rfl (fun _ _ => rfl) rfl ?_ ?_
        | refine RW_runG (nw := true) rfl rfl rfl rfl rfl (fun _ _ => rfl) rfl ?_ ?_
        | refine RW_runU (nw := true) rfl rfl rfl rfl rfl (fun _ _ => rfl) rfl ?_ ?_
        | refine RW_op (us := ?_) (ub := ?_) (fp := ?_) rfl (fun s0 b0 => ?_) ?_ ?_
        | refine RW_opT (us := ?_) (ub := ?_) (fp := ?_) rfl rfl rfl rfl (fun s0 b0 => ?_) ?_ ?_
        | (refine RW_split rfl rfl rfl ?_ ?_ <;> intro hq <;> try (exfalso; (simp_all) <;> omega))
        | refine RW_nil ?_ (by first | decide +kernel | kernel_rfl))
      | (refine gate 1 rfl ?_; first
        | refine callD false (ropetext_ok cs hn hm) rfl rfl rfl rfl (by (repeat' (first | exact trivial | refine And.intro ?_ ?_ | rfl)); done) rfl rfl ?_
        | refine callD true (cuts_ok _ hT') rfl rfl rfl rfl (by (repeat' (first | exact trivial | refine And.intro ?_ ?_ | rfl)); done) rfl rfl ?_
        | refine callB (h2) rfl rfl rfl rfl rfl rfl rfl rfl rfl ⟨rfl, trivial⟩ ⟨rfl, rfl, rfl, trivial⟩ rfl rfl rfl rfl rfl rfl rfl rfl ?_)
      | (refine gate 5 rfl ?_; first
        | refine litR rfl rfl rfl rfl rfl rfl rfl rfl ?_
        | refine litW rfl rfl rfl rfl rfl rfl ?_)
      | (refine gate 0 rfl ?_; refine op_storeD rfl rfl rfl rfl rfl rfl rfl rfl rfl rfl ?_)
      | (refine gate 8 rfl ?_; refine op_mkFn rfl rfl rfl rfl ?_)
      | (refine gate 7 rfl ?_; refine op_nil rfl rfl rfl rfl rfl rfl (fun b hb => ?_))
      | (refine inW ?_; first
        | refine W_seq ?_
        | refine W_region ?_
        | refine W_drawN (by decide +kernel) ?_
        | refine W_block ?_
        | refine W_skip ?_
        | refine W_exit ?_
        | refine W_ret ?_
        | refine W_condT rfl rfl ?_
        | refine W_condF rfl rfl ?_
        | (refine W_condB rfl ?_ ?_ <;> intro hq <;> try (exfalso; (simp_all) <;> omega)))
      | (refine inE ?_; first
        | refine end_d rfl rfl rfl rfl ?_ ?_
        | refine end_o rfl rfl rfl rfl ?_ ?_
        | refine end_of rfl rfl rfl ?_ ?_)
      | refine rsOne ?_
      | refine msPd rfl ?_
      | refine msPn ?_
      | refine msPo rfl ?_
      | refine And.intro ?_ ?_
      | (show List.length _ ≠ 1; simp)
      | (show (_ : Int) ≤ _; first | omega | (simp [IntKind.bits, dflt] <;> omega) | (simp at *; omega))
      | (show (_ : Int) < _; first | omega | (simp [IntKind.bits, dflt] <;> omega) | (simp at *; omega))
      | (show (_ : Nat) ≤ _; first | omega | (unfold maxLen; omega) | (simp [IntKind.bits, dflt] <;> omega) | (simp at *; omega))
      | rfl)
end Go.LX
