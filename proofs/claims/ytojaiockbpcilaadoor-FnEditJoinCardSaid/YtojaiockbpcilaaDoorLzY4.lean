/- A part of the proof of the statement in the row text. -/
import Derived.Test.YtojaiockbpcilaaDoorLzY3
import Derived.Test.YtojaiockbpcilaaDoorLzY1
import Derived.Test.YtojaiockbpcilaaDoorLxCv
set_option linter.unusedVariables false
set_option linter.unusedSimpArgs false
namespace Go.LX
open Go.Proofs
attribute [local irreducible] W WO OpW RW EndQ
set_option maxHeartbeats 4000000 in
set_option maxRecDepth 20000 in
theorem lawEJ_big (code : List UInt8) (hl : 1048576 < code.length) : FnC Tryd.prog 3 [aBy code] [aX] (.one (sB true)) := by
  refine FnC_of (fn := Tryd.f3) Tryd.func3 rfl rfl rfl ?_
  repeat' (first
    | exact trivial
    | (refine inWO ?_; first
      | refine WO_runE (nw := true) rfl rfl ?_ ?_
      | refine WO_runG (nw := true) rfl rfl rfl rfl rfl ?_ ?_
      | refine WO_runU (nw := true) rfl rfl rfl rfl rfl ?_ ?_
      | refine WO_run1 (nw := true) rfl rfl ?_ ?_
      | refine WO_cons rfl ?_
      | refine WO_gT rfl rfl rfl rfl rfl ?_
      | (refine WO_split rfl rfl rfl rfl ?_ ?_ <;> intro hq <;> try (exfalso; (simp_all) <;> omega))
      | refine WO_nil ?_)
    | (refine inRW ?_; first
      | refine RW_runE (nw := true) rfl rfl (fun _ _ => rfl) rfl ?_ ?_
      | refine RW_runG (nw := true) rfl rfl rfl rfl rfl (fun _ _ => rfl) rfl ?_ ?_
      | refine RW_runU (nw := true) rfl rfl rfl rfl rfl (fun _ _ => rfl) rfl ?_ ?_
      | refine RW_op (us := ?_) (ub := ?_) (fp := ?_) rfl (fun s0 b0 => ?_) ?_ ?_
      | refine RW_opT (us := ?_) (ub := ?_) (fp := ?_) rfl rfl rfl rfl (fun s0 b0 => ?_) ?_ ?_
      | (refine RW_split rfl rfl rfl ?_ ?_ <;> intro hq <;> try (exfalso; (simp_all) <;> omega))
      | refine RW_nil ?_ (by first | decide +kernel | kernel_rfl))
    | (refine gate 1 rfl ?_; first
      | refine callD false (big_ok _) rfl rfl rfl rfl (by (repeat' (first | exact trivial | refine And.intro ?_ ?_ | rfl)); done) rfl rfl ?_)
    | (refine gate 5 rfl ?_; first
      | refine litR rfl rfl rfl rfl rfl rfl rfl rfl ?_
      | refine litW rfl rfl rfl rfl rfl rfl ?_)
    | (refine gate 6 rfl ?_; refine mkS rfl rfl rfl rfl rfl rfl rfl rfl rfl rfl rfl rfl rfl ?_ ?_ ?_ ?_)
    | (refine gate 6 rfl ?_; refine op_makeD _ rfl rfl rfl rfl rfl rfl rfl rfl rfl rfl rfl rfl rfl ?_ ?_ ?_ ?_)
    | (refine gate 0 rfl ?_; refine op_storeD rfl rfl rfl rfl rfl rfl rfl rfl rfl rfl ?_)
    | (refine gate 8 rfl ?_; refine op_mkFn rfl rfl rfl rfl ?_)
    | (refine gate 7 rfl ?_; refine op_nil rfl rfl rfl rfl rfl rfl (fun b hb => ?_))
    | (refine inW ?_; first
      | refine W_seq ?_
      | refine W_region ?_
      | refine W_drawN (by decide +kernel) ?_
      | refine W_block ?_
      | refine W_skip ?_
      | refine W_exit ?_
      | refine W_ret ?_
      | refine W_condT rfl rfl ?_
      | refine W_condF rfl rfl ?_
      | (refine W_condB rfl ?_ ?_ <;> intro hq <;> try (exfalso; (simp_all) <;> omega)))
    | (refine inE ?_; first
      | refine end_d rfl rfl rfl rfl ?_ ?_
      | refine end_o rfl rfl rfl rfl ?_ ?_
      | refine end_of rfl rfl rfl ?_ ?_)
    | refine rsOne ?_
    | refine msPd rfl ?_
    | refine msPn ?_
    | refine msPo rfl ?_
    | refine And.intro ?_ ?_
    | (show List.length _ ≠ 1; simp)
    | (show (_ : Int) ≤ _; first | omega | (simp [IntKind.bits, dflt] <;> omega) | (simp at *; omega))
    | (show (_ : Int) < _; first | omega | (simp [IntKind.bits, dflt] <;> omega) | (simp at *; omega))
    | (show (_ : Nat) ≤ _; first | omega | (unfold maxLen; omega) | (simp [IntKind.bits, dflt] <;> omega) | (simp at *; omega))
    | rfl)
set_option maxHeartbeats 4000000 in
set_option maxRecDepth 20000 in
theorem lawEJ_no (code : List UInt8) (a b : Ed) (hl : code.length ≤ 1048576) (ht : a.2.2.length ≤ 1001) (hp : b.2.2.length ≤ 1001) (hd : FnC Tryd.prog 11 [aBy code] [aX] (.tu [(true, [sI a.1, sI a.2.1, sBy a.2.2]), (true, [sI b.1, sI b.2.1, oBy b.2.2])]))
    (h : jnB a b = false) : FnC Tryd.prog 3 [aBy code] [aX] (.one (sB true)) := by
  have h1 := sjoin_ok a b
  have h2 := ijoin_ok a b
  have e : jnE a b = (0, 0, []) := by rw [jnE, h]; rfl
  rw [e, h] at h1 h2
  have h3 := sameedit_ok (0, 0, []) (0, 0, []) (by simp) (by simp)
  rw [sameE_refl] at h3
  refine FnC_of (fn := Tryd.f3) Tryd.func3 rfl rfl rfl ?_
  repeat' (first
    | exact trivial
    | (refine inWO ?_; first
      | refine WO_runE (nw := true) rfl rfl ?_ ?_
      | refine WO_runG (nw := true) rfl rfl rfl rfl rfl ?_ ?_
      | refine WO_runU (nw := true) rfl rfl rfl rfl rfl ?_ ?_
      | refine WO_run1 (nw := true) rfl rfl ?_ ?_
      | refine WO_cons rfl ?_
      | refine WO_gT rfl rfl rfl rfl rfl ?_
      | (refine WO_split rfl rfl rfl rfl ?_ ?_ <;> intro hq <;> try (exfalso; (simp_all) <;> omega))
      | refine WO_nil ?_)
    | (refine inRW ?_; first
      | refine RW_runE (nw := true) rfl rfl (fun _ _ => rfl) rfl ?_ ?_
      | refine RW_runG (nw := true) rfl rfl rfl rfl rfl (fun _ _ => rfl) rfl ?_ ?_
      | refine RW_runU (nw := true) rfl rfl rfl rfl rfl (fun _ _ => rfl) rfl ?_ ?_
      | refine RW_op (us := ?_) (ub := ?_) (fp := ?_) rfl (fun s0 b0 => ?_) ?_ ?_
      | refine RW_opT (us := ?_) (ub := ?_) (fp := ?_) rfl rfl rfl rfl (fun s0 b0 => ?_) ?_ ?_
      | (refine RW_split rfl rfl rfl ?_ ?_ <;> intro hq <;> try (exfalso; (simp_all) <;> omega))
      | refine RW_nil ?_ (by first | decide +kernel | kernel_rfl))
    | (refine gate 1 rfl ?_; first
      | refine callD false (big_ok _) rfl rfl rfl rfl (by (repeat' (first | exact trivial | refine And.intro ?_ ?_ | rfl)); done) rfl rfl ?_
      | refine callD false (hd) rfl rfl rfl rfl (by (repeat' (first | exact trivial | refine And.intro ?_ ?_ | rfl)); done) rfl rfl ?_)
    | (refine gate 5 rfl ?_; first
      | refine litR rfl rfl rfl rfl rfl rfl rfl rfl ?_
      | refine litW rfl rfl rfl rfl rfl rfl ?_)
    | (refine gate 6 rfl ?_; refine mkS rfl rfl rfl rfl rfl rfl rfl rfl rfl rfl rfl rfl rfl ?_ ?_ ?_ ?_)
    | (refine gate 6 rfl ?_; refine op_makeD _ rfl rfl rfl rfl rfl rfl rfl rfl rfl rfl rfl rfl rfl ?_ ?_ ?_ ?_)
    | (refine gate 0 rfl ?_; refine op_storeD rfl rfl rfl rfl rfl rfl rfl rfl rfl rfl ?_)
    | (refine gate 8 rfl ?_; refine op_mkFn rfl rfl rfl rfl ?_)
    | (refine gate 7 rfl ?_; refine op_nil rfl rfl rfl rfl rfl rfl (fun b hb => ?_))
    | (refine inW ?_; first
      | refine W_seq ?_
      | refine W_region ?_
      | refine W_block ?_
      | refine W_skip ?_
      | refine W_exit ?_
      | refine W_ret ?_
      | refine W_condT rfl rfl ?_
      | refine W_condF rfl rfl ?_
      | (refine W_condB rfl ?_ ?_ <;> intro hq <;> try (exfalso; (simp_all) <;> omega)))
    | (refine inE ?_; first
      | refine end_d rfl rfl rfl rfl ?_ ?_
      | refine end_o rfl rfl rfl rfl ?_ ?_
      | refine end_of rfl rfl rfl ?_ ?_)
    | refine rsOne ?_
    | refine msPd rfl ?_
    | refine msPn ?_
    | refine msPo rfl ?_
    | refine And.intro ?_ ?_
    | (show List.length _ ≠ 1; simp)
    | (show (_ : Int) ≤ _; first | omega | (simp [IntKind.bits, dflt] <;> omega) | (simp at *; omega))
    | (show (_ : Int) < _; first | omega | (simp [IntKind.bits, dflt] <;> omega) | (simp at *; omega))
    | (show (_ : Nat) ≤ _; first | omega | (unfold maxLen; omega) | (simp [IntKind.bits, dflt] <;> omega) | (simp at *; omega))
    | rfl)
  first | refine W.weak (Wk_freeze (o := 22005) rfl) ?_ | refine OpW_weak (Wk_freeze (o := 22005) rfl) ?_
  repeat' (first
    | exact trivial
    | (refine inWO ?_; first
      | refine WO_runE (nw := true) rfl rfl ?_ ?_
      | refine WO_runG (nw := true) rfl rfl rfl rfl rfl ?_ ?_
      | refine WO_runG1 (nw := true) rfl rfl rfl rfl rfl ?_ ?_
      | refine WO_runU (nw := true) rfl rfl rfl rfl rfl ?_ ?_
      | refine WO_run1 (nw := true) rfl rfl ?_ ?_
      | refine WO_cons rfl ?_
      | refine WO_gT rfl rfl rfl rfl rfl ?_
      | (refine WO_split rfl rfl rfl rfl ?_ ?_ <;> intro hq <;> try (exfalso; (simp_all) <;> omega))
      | refine WO_nil ?_)
    | (refine inRW ?_; first
      | refine RW_runE (nw := true) rfl rfl (fun _ _ => rfl) rfl ?_ ?_
      | refine RW_runG (nw := true) rfl rfl rfl rfl rfl (fun _ _ => rfl) rfl ?_ ?_
      | refine RW_runU (nw := true) rfl rfl rfl rfl rfl (fun _ _ => rfl) rfl ?_ ?_
      | refine RW_op (us := ?_) (ub := ?_) (fp := ?_) rfl (fun s0 b0 => ?_) ?_ ?_
      | refine RW_opT (us := ?_) (ub := ?_) (fp := ?_) rfl rfl rfl rfl (fun s0 b0 => ?_) ?_ ?_
      | (refine RW_split rfl rfl rfl ?_ ?_ <;> intro hq <;> try (exfalso; (simp_all) <;> omega))
      | refine RW_nil ?_ (by first | decide +kernel | kernel_rfl))
    | (refine gate 1 rfl ?_; first
      | refine callD false (h1) rfl rfl rfl rfl ⟨⟨rfl, rfl, rfl, trivial⟩, ⟨rfl, rfl, rfl, trivial⟩, trivial⟩ rfl rfl ?_
      | refine callD false (h2) rfl rfl rfl rfl ⟨⟨rfl, rfl, rfl, trivial⟩, ⟨rfl, rfl, rfl, trivial⟩, trivial⟩ rfl rfl ?_
      | refine callD true (h3) rfl rfl rfl rfl ⟨⟨rfl, rfl, rfl, trivial⟩, ⟨rfl, rfl, rfl, trivial⟩, trivial⟩ rfl rfl ?_)
    | (refine gate 5 rfl ?_; first
      | refine litR rfl rfl rfl rfl rfl rfl rfl rfl ?_
      | refine litW rfl rfl rfl rfl rfl rfl ?_)
    | (refine gate 6 rfl ?_; refine mkS rfl rfl rfl rfl rfl rfl rfl rfl rfl rfl rfl rfl rfl ?_ ?_ ?_ ?_)
    | (refine gate 6 rfl ?_; refine op_makeD _ rfl rfl rfl rfl rfl rfl rfl rfl rfl rfl rfl rfl rfl ?_ ?_ ?_ ?_)
    | (refine gate 0 rfl ?_; refine op_storeD rfl rfl rfl rfl rfl rfl rfl rfl rfl rfl ?_)
    | (refine gate 9 rfl ?_; refine op_bs rfl rfl rfl rfl rfl rfl rfl rfl ?_)
    | (refine gate 9 rfl ?_; refine op_cvF rfl rfl rfl rfl rfl rfl rfl rfl ?_)
    | (refine gate 8 rfl ?_; refine op_mkFn rfl rfl rfl rfl ?_)
    | (refine gate 7 rfl ?_; refine op_nil rfl rfl rfl rfl rfl rfl (fun b hb => ?_))
    | (refine inW ?_; first
      | refine W_seq ?_
      | refine W_region ?_
      | refine W_drawN (by decide +kernel) ?_
      | refine W_block ?_
      | refine W_skip ?_
      | refine W_exit ?_
      | refine W_ret ?_
      | refine W_condT rfl rfl ?_
      | refine W_condF rfl rfl ?_
      | (refine W_condB rfl ?_ ?_ <;> intro hq <;> try (exfalso; (simp_all) <;> omega)))
    | (refine inE ?_; first
      | refine end_d rfl rfl rfl rfl ?_ ?_
      | refine end_o rfl rfl rfl rfl ?_ ?_
      | refine end_of rfl rfl rfl ?_ ?_)
    | refine rsOne ?_
    | refine msPd rfl ?_
    | refine msPn ?_
    | refine msPo rfl ?_
    | refine And.intro ?_ ?_
    | (show List.length _ ≠ 1; simp)
    | (show (_ : Int) ≤ _; first | omega | (simp [IntKind.bits, dflt] <;> omega) | (simp at *; omega))
    | (show (_ : Int) < _; first | omega | (simp [IntKind.bits, dflt] <;> omega) | (simp at *; omega))
    | (show (_ : Nat) ≤ _; first | omega | (unfold maxLen; omega) | (simp [IntKind.bits, dflt] <;> omega) | (simp at *; omega))
    | rfl)
/-- A text filled with letters. -/
def fill : Nat → List UInt8 → List UInt8
  | 0, xs => xs
  | i + 1, xs => (fill i xs).set i (toB (97 + (i : Int) % 26))
theorem fill_len : ∀ {i : Nat} {xs : List UInt8}, (fill i xs).length = xs.length
  | 0, xs => rfl
  | i + 1, xs => by rw [fill, List.length_set, fill_len]
set_option maxHeartbeats 4000000 in
set_option maxRecDepth 20000 in
theorem lawEJ_yes (code : List UInt8) (a b : Ed) (hl : code.length ≤ 1048576) (ht : a.2.2.length ≤ 1001) (hp : b.2.2.length ≤ 1001) (hd : FnC Tryd.prog 11 [aBy code] [aX] (.tu [(true, [sI a.1, sI a.2.1, sBy a.2.2]), (true, [sI b.1, sI b.2.1, oBy b.2.2])]))
    (h : jnB a b = true) : FnC Tryd.prog 3 [aBy code] [aX] (.one (sB true)) := by
  have h1 := sjoin_ok a b
  have h2 := ijoin_ok a b
  rw [h] at h1 h2
  have hj := h
  rw [jnB, Bool.and_eq_true, decide_eq_true_eq] at hj
  obtain ⟨hc, hlen⟩ := hj
  obtain ⟨sa, sb, _, _⟩ := jnC_ok hc
  obtain ⟨a1, a2, a3⟩ := smE_ok sa
  obtain ⟨b1, b2, b3⟩ := smE_ok sb
  have hE : (jnE a b).2.2.length ≤ 400 := by rw [jnE, if_pos h]; exact hlen
  have hE1 : (jnE a b).1 = a.1 ∧ (jnE a b).2.1 = a.2.1 := by rw [jnE, if_pos h]; exact ⟨rfl, rfl⟩
  rw [hE1.1, hE1.2] at h1 h2
  have h3 := sameedit_ok (a.1, a.2.1, (jnE a b).2.2) (a.1, a.2.1, (jnE a b).2.2) (by simp only; omega) (by simp only; omega)
  rw [sameE_refl] at h3
  obtain ⟨x, hx, h4⟩ := lpick_ex code 3 9 (by omega) (by decide) (by decide)
  refine FnC_of (fn := Tryd.f3) Tryd.func3 rfl rfl rfl ?_
  repeat' (first
    | exact trivial
    | (refine inWO ?_; first
      | refine WO_runE (nw := true) rfl rfl ?_ ?_
      | refine WO_runG (nw := true) rfl rfl rfl rfl rfl ?_ ?_
      | refine WO_runU (nw := true) rfl rfl rfl rfl rfl ?_ ?_
      | refine WO_run1 (nw := true) rfl rfl ?_ ?_
      | refine WO_cons rfl ?_
      | refine WO_gT rfl rfl rfl rfl rfl ?_
      | (refine WO_split rfl rfl rfl rfl ?_ ?_ <;> intro hq <;> try (exfalso; (simp_all) <;> omega))
      | refine WO_nil ?_)
    | (refine inRW ?_; first
      | refine RW_runE (nw := true) rfl rfl (fun _ _ => rfl) rfl ?_ ?_
      | refine RW_runG (nw := true) rfl rfl rfl rfl rfl (fun _ _ => rfl) rfl ?_ ?_
      | refine RW_runU (nw := true) rfl rfl rfl rfl rfl (fun _ _ => rfl) rfl ?_ ?_
      | refine RW_op (us := ?_) (ub := ?_) (fp := ?_) rfl (fun s0 b0 => ?_) ?_ ?_
      | refine RW_opT (us := ?_) (ub := ?_) (fp := ?_) rfl rfl rfl rfl (fun s0 b0 => ?_) ?_ ?_
      | (refine RW_split rfl rfl rfl ?_ ?_ <;> intro hq <;> try (exfalso; (simp_all) <;> omega))
      | refine RW_nil ?_ (by first | decide +kernel | kernel_rfl))
    | (refine gate 1 rfl ?_; first
      | refine callD false (big_ok _) rfl rfl rfl rfl (by (repeat' (first | exact trivial | refine And.intro ?_ ?_ | rfl)); done) rfl rfl ?_
      | refine callD false (hd) rfl rfl rfl rfl (by (repeat' (first | exact trivial | refine And.intro ?_ ?_ | rfl)); done) rfl rfl ?_)
    | (refine gate 5 rfl ?_; first
      | refine litR rfl rfl rfl rfl rfl rfl rfl rfl ?_
      | refine litW rfl rfl rfl rfl rfl rfl ?_)
    | (refine gate 6 rfl ?_; refine mkS rfl rfl rfl rfl rfl rfl rfl rfl rfl rfl rfl rfl rfl ?_ ?_ ?_ ?_)
    | (refine gate 6 rfl ?_; refine op_makeD _ rfl rfl rfl rfl rfl rfl rfl rfl rfl rfl rfl rfl rfl ?_ ?_ ?_ ?_)
    | (refine gate 0 rfl ?_; refine op_storeD rfl rfl rfl rfl rfl rfl rfl rfl rfl rfl ?_)
    | (refine gate 8 rfl ?_; refine op_mkFn rfl rfl rfl rfl ?_)
    | (refine gate 7 rfl ?_; refine op_nil rfl rfl rfl rfl rfl rfl (fun b hb => ?_))
    | (refine inW ?_; first
      | refine W_seq ?_
      | refine W_region ?_
      | refine W_block ?_
      | refine W_skip ?_
      | refine W_exit ?_
      | refine W_ret ?_
      | refine W_condT rfl rfl ?_
      | refine W_condF rfl rfl ?_
      | (refine W_condB rfl ?_ ?_ <;> intro hq <;> try (exfalso; (simp_all) <;> omega)))
    | (refine inE ?_; first
      | refine end_d rfl rfl rfl rfl ?_ ?_
      | refine end_o rfl rfl rfl rfl ?_ ?_
      | refine end_of rfl rfl rfl ?_ ?_)
    | refine rsOne ?_
    | refine msPd rfl ?_
    | refine msPn ?_
    | refine msPo rfl ?_
    | refine And.intro ?_ ?_
    | (show List.length _ ≠ 1; simp)
    | (show (_ : Int) ≤ _; first | omega | (simp [IntKind.bits, dflt] <;> omega) | (simp at *; omega))
    | (show (_ : Int) < _; first | omega | (simp [IntKind.bits, dflt] <;> omega) | (simp at *; omega))
    | (show (_ : Nat) ≤ _; first | omega | (unfold maxLen; omega) | (simp [IntKind.bits, dflt] <;> omega) | (simp at *; omega))
    | rfl)
  first | refine W.weak (Wk_freeze (o := 22005) rfl) ?_ | refine OpW_weak (Wk_freeze (o := 22005) rfl) ?_
  repeat' (first
    | exact trivial
    | (refine inWO ?_; first
      | refine WO_runE (nw := true) rfl rfl ?_ ?_
      | refine WO_runG (nw := true) rfl rfl rfl rfl rfl ?_ ?_
      | refine WO_runG1 (nw := true) rfl rfl rfl rfl rfl ?_ ?_
      | refine WO_runU (nw := true) rfl rfl rfl rfl rfl ?_ ?_
      | refine WO_run1 (nw := true) rfl rfl ?_ ?_
      | refine WO_cons rfl ?_
      | refine WO_gT rfl rfl rfl rfl rfl ?_
      | (refine WO_split rfl rfl rfl rfl ?_ ?_ <;> intro hq <;> try (exfalso; (simp_all) <;> omega))
      | refine WO_nil ?_)
    | (refine inRW ?_; first
      | refine RW_runE (nw := true) rfl rfl (fun _ _ => rfl) rfl ?_ ?_
      | refine RW_runG (nw := true) rfl rfl rfl rfl rfl (fun _ _ => rfl) rfl ?_ ?_
      | refine RW_runU (nw := true) rfl rfl rfl rfl rfl (fun _ _ => rfl) rfl ?_ ?_
      | refine RW_op (us := ?_) (ub := ?_) (fp := ?_) rfl (fun s0 b0 => ?_) ?_ ?_
      | refine RW_opT (us := ?_) (ub := ?_) (fp := ?_) rfl rfl rfl rfl (fun s0 b0 => ?_) ?_ ?_
      | (refine RW_split rfl rfl rfl ?_ ?_ <;> intro hq <;> try (exfalso; (simp_all) <;> omega))
      | refine RW_nil ?_ (by first | decide +kernel | kernel_rfl))
    | (refine gate 1 rfl ?_; first
      | refine callD false (h1) rfl rfl rfl rfl ⟨⟨rfl, rfl, rfl, trivial⟩, ⟨rfl, rfl, rfl, trivial⟩, trivial⟩ rfl rfl ?_
      | refine callD false (h2) rfl rfl rfl rfl ⟨⟨rfl, rfl, rfl, trivial⟩, ⟨rfl, rfl, rfl, trivial⟩, trivial⟩ rfl rfl ?_
      | refine callD true (h3) rfl rfl rfl rfl ⟨⟨rfl, rfl, rfl, trivial⟩, ⟨rfl, rfl, rfl, trivial⟩, trivial⟩ rfl rfl ?_
      | refine callD false (h4) rfl rfl rfl rfl (by (repeat' (first | exact trivial | refine And.intro ?_ ?_ | rfl)); done) rfl rfl ?_)
    | (refine gate 5 rfl ?_; first
      | refine litR rfl rfl rfl rfl rfl rfl rfl rfl ?_
      | refine litW rfl rfl rfl rfl rfl rfl ?_)
    | (refine gate 6 rfl ?_; refine mkS rfl rfl rfl rfl rfl rfl rfl rfl rfl rfl rfl rfl rfl ?_ ?_ ?_ ?_)
    | (refine gate 6 rfl ?_; refine op_makeD _ rfl rfl rfl rfl rfl rfl rfl rfl rfl rfl rfl rfl rfl ?_ ?_ ?_ ?_)
    | (refine gate 0 rfl ?_; refine op_storeD rfl rfl rfl rfl rfl rfl rfl rfl rfl rfl ?_)
    | (refine gate 9 rfl ?_; refine op_bs rfl rfl rfl rfl rfl rfl rfl rfl ?_)
    | (refine gate 9 rfl ?_; refine op_cvF rfl rfl rfl rfl rfl rfl rfl rfl ?_)
    | (refine gate 8 rfl ?_; refine op_mkFn rfl rfl rfl rfl ?_)
    | (refine gate 7 rfl ?_; refine op_nil rfl rfl rfl rfl rfl rfl (fun b hb => ?_))
    | (refine inW ?_; first
      | refine W_seq ?_
      | refine W_region ?_
      | refine W_drawN (by decide +kernel) ?_
      | refine W_block ?_
      | refine W_skip ?_
      | refine W_exit ?_
      | refine W_ret ?_
      | refine W_condT rfl rfl ?_
      | refine W_condF rfl rfl ?_
      | (refine W_condB rfl ?_ ?_ <;> intro hq <;> try (exfalso; (simp_all) <;> omega)))
    | (refine inE ?_; first
      | refine end_d rfl rfl rfl rfl ?_ ?_
      | refine end_o rfl rfl rfl rfl ?_ ?_
      | refine end_of rfl rfl rfl ?_ ?_)
    | refine rsOne ?_
    | refine msPd rfl ?_
    | refine msPn ?_
    | refine msPo rfl ?_
    | refine And.intro ?_ ?_
    | (show List.length _ ≠ 1; simp)
    | (show (_ : Int) ≤ _; first | omega | (simp [IntKind.bits, dflt] <;> omega) | (simp at *; omega))
    | (show (_ : Int) < _; first | omega | (simp [IntKind.bits, dflt] <;> omega) | (simp at *; omega))
    | (show (_ : Nat) ≤ _; first | omega | (unfold maxLen; omega) | (simp [IntKind.bits, dflt] <;> omega) | (simp at *; omega))
    | rfl)
  obtain ⟨n, hn⟩ : ∃ n : Nat, (min 400 (a.1 + a.2.1 + x)).toNat = n := ⟨_, rfl⟩
  have hn4 : n ≤ 400 := by omega
  refine W_loopT (fun i : Nat => St.tmpl 114 [(3, .one (.rf 4000 (.pb 0))), (4, .one (.rf 5000 (.pb 0))), (7, .one (.rf 8000 (.pb 0))), (9, .one (.rf 67000 .ar)), (10, .one (.d (.i .i64) (i : Int)))] [(4000, .cells [.d (.i .i64) a.1, .d (.i .i64) a.2.1, .d (.sl .u8) a.2.2]), (5000, .cells [.d (.i .i64) b.1, .d (.i .i64) b.2.1, .rf 22005 .ar]), (8000, .cells [.d (.i .i64) a.1, .d (.i .i64) a.2.1, .rf 34002 .ar]), (22005, .fz .u8 false b.2.2), (34002, .rows 5 .u8 false (jnE a b).2.2), (67000, .rows 5 .u8 false (fill i (List.replicate n 0)))]) (fun i => i ≤ n) (fun i => n - i) 0 (Nat.zero_le _) ?_ ?_
  · exact Wk_tmpl [] ⟨rfl, rfl, rfl, rfl, rfl, trivial⟩ ⟨rfl, rfl, rfl, rfl, rfl, by rw [← hn]; rfl, trivial⟩ rfl rfl
  · intro i hi
    have hf : (fill i (List.replicate n 0)).length = n := by rw [fill_len, List.length_replicate]
    by_cases hlt : i < n
    · skip
      repeat' (first
        | exact trivial
        | (refine inWO ?_; first
          | refine WO_runE (nw := true) rfl rfl ?_ ?_
          | refine WO_runG (nw := true) rfl rfl rfl rfl rfl ?_ ?_
          | refine WO_runU (nw := true) rfl rfl rfl rfl rfl ?_ ?_
          | refine WO_run1 (nw := true) rfl rfl ?_ ?_
          | refine WO_cons rfl ?_
          | refine WO_gT rfl rfl rfl rfl rfl ?_
          | (refine WO_split rfl rfl rfl rfl ?_ ?_ <;> intro hq <;> try (exfalso; (simp_all) <;> omega))
          | refine WO_nil ?_)
        | (refine inRW ?_; first
          | refine RW_runE (nw := true) rfl rfl (fun _ _ => rfl) rfl ?_ ?_
          | refine RW_runG (nw := true) rfl rfl rfl rfl rfl (fun _ _ => rfl) rfl ?_ ?_
          | refine RW_runU (nw := true) rfl rfl rfl rfl rfl (fun _ _ => rfl) rfl ?_ ?_
          | refine RW_op (us := ?_) (ub := ?_) (fp := ?_) rfl (fun s0 b0 => ?_) ?_ ?_
          | refine RW_opT (us := ?_) (ub := ?_) (fp := ?_) rfl rfl rfl rfl (fun s0 b0 => ?_) ?_ ?_
          | (refine RW_split rfl rfl rfl ?_ ?_ <;> intro hq <;> try (exfalso; (simp_all) <;> omega))
          | refine RW_nil ?_ (by first | decide +kernel | kernel_rfl))
        | (refine gate 5 rfl ?_; first
          | refine litR rfl rfl rfl rfl rfl rfl rfl rfl ?_
          | refine litW rfl rfl rfl rfl rfl rfl ?_)
        | (refine gate 6 rfl ?_; refine mkS rfl rfl rfl rfl rfl rfl rfl rfl rfl rfl rfl rfl rfl ?_ ?_ ?_ ?_)
        | (refine gate 6 rfl ?_; refine op_makeD _ rfl rfl rfl rfl rfl rfl rfl rfl rfl rfl rfl rfl rfl ?_ ?_ ?_ ?_)
        | (refine gate 0 rfl ?_; refine op_storeD rfl rfl rfl rfl rfl rfl rfl rfl rfl rfl ?_)
        | (refine gate 8 rfl ?_; refine op_mkFn rfl rfl rfl rfl ?_)
        | (refine gate 7 rfl ?_; refine op_nil rfl rfl rfl rfl rfl rfl (fun b hb => ?_))
        | (refine inW ?_; first
          | refine W_seq ?_
          | refine W_region ?_
          | refine W_drawN (by decide +kernel) ?_
          | refine W_block ?_
          | refine W_skip ?_
          | refine W_exit ?_
          | refine W_ret ?_
          | refine W_condT rfl rfl ?_
          | refine W_condF rfl rfl ?_
          | (refine W_condB rfl ?_ ?_ <;> intro hq <;> try (exfalso; (simp_all) <;> omega)))
        | (refine inE ?_; first
          | refine end_d rfl rfl rfl rfl ?_ ?_
          | refine end_o rfl rfl rfl rfl ?_ ?_
          | refine end_of rfl rfl rfl ?_ ?_)
        | refine rsOne ?_
        | refine msPd rfl ?_
        | refine msPn ?_
        | refine msPo rfl ?_
        | refine And.intro ?_ ?_
        | (show List.length _ ≠ 1; simp)
        | (show (_ : Int) ≤ _; first | omega | (simp [IntKind.bits, dflt] <;> omega) | (simp at *; omega))
        | (show (_ : Int) < _; first | omega | (simp [IntKind.bits, dflt] <;> omega) | (simp at *; omega))
        | (show (_ : Nat) ≤ _; first | omega | (unfold maxLen; omega) | (simp [IntKind.bits, dflt] <;> omega) | (simp at *; omega))
        | rfl)
      refine ⟨i + 1, by omega, by omega, Wk_tmpl [] ⟨rfl, rfl, rfl, rfl, rfl, trivial⟩ ⟨rfl, rfl, rfl, rfl, rfl, ?_, trivial⟩ rfl rfl⟩
      first
        | rfl
        | (refine congrArg (fun r => some (Ob.rows 5 .u8 false r)) ?_; rfl)
    · have e : i = n := by omega
      obtain ⟨T, hT⟩ : ∃ T, fill i (List.replicate n 0) = T := ⟨_, rfl⟩
      rw [hT] at hf ⊢
      have h5 := sdo_ok T a (by omega) (by omega)
      have l5 : (doR T a).length ≤ 16777216 := by
        unfold doR
        split
        · have := doE_len (t := T) (e := a); omega
        · simp
      have h6 := sdo_ok (doR T a) b l5 (by omega)
      have h7 := ieditdo_ok T (a.1, a.2.1, (jnE a b).2.2) (by omega) (by simp only; omega)
      have hfin : eokM T a = true → eokM (doR T a) b = true → eokM T (a.1, a.2.1, (jnE a b).2.2) = true ∧ doR (doR T a) b = doR T (a.1, a.2.1, (jnE a b).2.2) := by
        intro x1 x2
        have hE2 : jnE a b = (a.1, a.2.1, (jnE a b).2.2) := by rw [← hE1.1, ← hE1.2]
        have x3 := x2
        rw [show doR T a = doE T a by rw [doR, if_pos x1]] at x3 ⊢
        obtain ⟨y1, y2⟩ := jn_do (by omega) h x1 x3
        rw [hE2] at y1 y2
        exact ⟨y1, by rw [doR, if_pos x3, doR, if_pos y1]; exact y2.symm⟩
      clear hT
      generalize doR (doR T a) b = X at *
      generalize doR T (a.1, a.2.1, (jnE a b).2.2) = Y at *
      generalize eokM (doR T a) b = c2 at *
      generalize eokM T (a.1, a.2.1, (jnE a b).2.2) = c3 at *
      generalize eokM T a = c1 at *
      generalize doR T a = U at *
      repeat' (first
        | exact trivial
        | (refine inWO ?_; first
          | refine WO_runE (nw := true) rfl rfl ?_ ?_
          | refine WO_runG (nw := true) rfl rfl rfl rfl rfl ?_ ?_
          | refine WO_runG1 (nw := true) rfl rfl rfl rfl rfl ?_ ?_
          | refine WO_runU (nw := true) rfl rfl rfl rfl rfl ?_ ?_
          | refine WO_run1 (nw := true) rfl rfl ?_ ?_
          | refine WO_cons rfl ?_
          | refine WO_gT rfl rfl rfl rfl rfl ?_
          | (refine WO_split rfl rfl rfl rfl ?_ ?_ <;> intro hq <;> try (exfalso; (simp_all) <;> omega))
          | refine WO_nil ?_)
        | (refine inRW ?_; first
          | refine RW_runE (nw := true) rfl rfl (fun _ _ => rfl) rfl ?_ ?_
          | refine RW_runG (nw := true) rfl rfl rfl rfl rfl (fun _ _ => rfl) rfl ?_ ?_
          | refine RW_runU (nw := true) rfl rfl rfl rfl rfl (fun _ _ => rfl) rfl ?_ ?_
          | refine RW_op (us := ?_) (ub := ?_) (fp := ?_) rfl (fun s0 b0 => ?_) ?_ ?_
          | refine RW_opT (us := ?_) (ub := ?_) (fp := ?_) rfl rfl rfl rfl (fun s0 b0 => ?_) ?_ ?_
          | (refine RW_split rfl rfl rfl ?_ ?_ <;> intro hq <;> try (exfalso; (simp_all) <;> omega))
          | refine RW_nil ?_ (by first | decide +kernel | kernel_rfl))
        | (refine gate 1 rfl ?_; first
          | refine callD true (h5) rfl rfl rfl rfl ⟨rfl, ⟨rfl, rfl, rfl, trivial⟩, trivial⟩ rfl rfl ?_
          | refine callD true (h6) rfl rfl rfl rfl ⟨rfl, ⟨rfl, rfl, rfl, trivial⟩, trivial⟩ rfl rfl ?_
          | refine callD true (h7) rfl rfl rfl rfl ⟨rfl, ⟨rfl, rfl, rfl, trivial⟩, trivial⟩ rfl rfl ?_)
        | (refine gate 5 rfl ?_; first
          | refine litR rfl rfl rfl rfl rfl rfl rfl rfl ?_
          | refine litW rfl rfl rfl rfl rfl rfl ?_)
        | (refine gate 6 rfl ?_; refine mkS rfl rfl rfl rfl rfl rfl rfl rfl rfl rfl rfl rfl rfl ?_ ?_ ?_ ?_)
        | (refine gate 6 rfl ?_; refine op_makeD _ rfl rfl rfl rfl rfl rfl rfl rfl rfl rfl rfl rfl rfl ?_ ?_ ?_ ?_)
        | (refine gate 0 rfl ?_; refine op_storeD rfl rfl rfl rfl rfl rfl rfl rfl rfl rfl ?_)
        | (refine gate 9 rfl ?_; refine op_bs rfl rfl rfl rfl rfl rfl rfl rfl ?_)
        | (refine gate 9 rfl ?_; refine op_cvF rfl rfl rfl rfl rfl rfl rfl rfl ?_)
        | (refine gate 8 rfl ?_; refine op_mkFn rfl rfl rfl rfl ?_)
        | (refine gate 7 rfl ?_; refine op_nil rfl rfl rfl rfl rfl rfl (fun b hb => ?_))
        | (refine inW ?_; first
          | refine W_seq ?_
          | refine W_region ?_
          | refine W_drawN (by decide +kernel) ?_
          | refine W_block ?_
          | refine W_skip ?_
          | refine W_exit ?_
          | refine W_ret ?_
          | refine W_condT rfl rfl ?_
          | refine W_condF rfl rfl ?_
          | (refine W_condB rfl ?_ ?_ <;> intro hq <;> try (exfalso; (simp_all) <;> omega)))
        | (refine inE ?_; first
          | refine end_d rfl rfl rfl rfl ?_ ?_
          | refine end_o rfl rfl rfl rfl ?_ ?_
          | refine end_of rfl rfl rfl ?_ ?_)
        | refine rsOne ?_
        | refine msPd rfl ?_
        | refine msPn ?_
        | refine msPo rfl ?_
        | refine And.intro ?_ ?_
        | (show List.length _ ≠ 1; simp)
        | (show (_ : Int) ≤ _; first | omega | (simp [IntKind.bits, dflt] <;> omega) | (simp at *; omega))
        | (show (_ : Int) < _; first | omega | (simp [IntKind.bits, dflt] <;> omega) | (simp at *; omega))
        | (show (_ : Nat) ≤ _; first | omega | (unfold maxLen; omega) | (simp [IntKind.bits, dflt] <;> omega) | (simp at *; omega))
        | rfl)
      rename_i z1 z2
      have x1 : c1 = true := by
        have h : (!c1) = false := z1
        simpa using h
      have x2 : c2 = true := by
        have h : (!c2) = false := z2
        simpa using h
      exact decide_eq_true (hfin x1 x2).2
theorem lawEJ_ok (code : List UInt8) (hw : WfT (.sl .u8) code) : FnC Tryd.prog 3 [aBy code] [aX] (.one (sB true)) := by
  by_cases hl : code.length ≤ 1048576
  · obtain ⟨r, h1, h2, hd⟩ := drawej_ex code (by omega)
    cases h : jnB r.1 r.2 with
    | true => exact lawEJ_yes code r.1 r.2 hl h1 h2 hd h
    | false => exact lawEJ_no code r.1 r.2 hl h1 h2 hd h
  · exact lawEJ_big code (by omega)
end Go.LX
