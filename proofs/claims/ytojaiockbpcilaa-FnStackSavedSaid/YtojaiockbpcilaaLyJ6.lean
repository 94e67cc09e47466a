/- A part of the proof of the statement in the row text. -/
import Derived.Test.YtojaiockbpcilaaLyJ4
import Derived.Test.YtojaiockbpcilaaLyG7
set_option linter.unusedVariables false
set_option linter.unusedSimpArgs false
namespace Go.LX
open Go.Proofs
attribute [local irreducible] W WO OpW RW EndQ
set_option maxHeartbeats 4000000 in
set_option maxRecDepth 20000 in
theorem draweby_ex (code : List UInt8) (hl : code.length ≤ 16777216) : ∃ r : Ed, r.2.2.length ≤ 401 ∧ FnC Try.prog 28 [aBy code] [aX] (.ag [sI r.1, sI r.2.1, oBy r.2.2]) := by
  have ho := open_ok code hl
  obtain ⟨s1, n2, h2⟩ := smM_ok code 0 _ hl (open_b (n := code.length)) (by decide)
  refine ⟨_, s1, ?_⟩
  refine FnC_of (fn := Try.f28) Try.func28 rfl rfl rfl ?_
  repeat' (first
    | exact trivial
    | (refine inWO ?_; first
      | refine WO_runE (nw := true) rfl rfl ?_ ?_
      | refine WO_runG (nw := true) rfl rfl rfl rfl rfl ?_ ?_
      | refine WO_runU (nw := true) rfl rfl rfl rfl rfl ?_ ?_
      | refine WO_run1 (nw := true) rfl rfl ?_ ?_
      | refine WO_cons rfl ?_
      | refine WO_gT rfl rfl rfl rfl rfl ?_
      | (refine WO_split rfl rfl rfl rfl ?_ ?_ <;> intro hq <;> try (exfalso; (simp_all) <;> omega))
      | refine WO_nil ?_)
    | (refine inRW ?_; first
      | refine RW_runE (nw := true) rfl rfl (fun _ _ => rfl) rfl ?_ ?_
      | refine RW_runG (nw := true) rfl rfl rfl rfl rfl (fun _ _ => rfl) rfl ?_ ?_
      | refine RW_runU (nw := true) rfl rfl rfl rfl rfl (fun _ _ => rfl) rfl ?_ ?_
      | refine RW_op (us := ?_) (ub := ?_) (fp := ?_) rfl (fun s0 b0 => ?_) ?_ ?_
      | refine RW_opT (us := ?_) (ub := ?_) (fp := ?_) rfl rfl rfl rfl (fun s0 b0 => ?_) ?_ ?_
      | (refine RW_split rfl rfl rfl ?_ ?_ <;> intro hq <;> try (exfalso; (simp_all) <;> omega))
      | refine RW_nil ?_ (by first | decide +kernel | kernel_rfl))
    | (refine gate 1 rfl ?_; first
      | refine op_callBx (ho) rfl rfl rfl rfl (by (repeat' (first | exact trivial | refine And.intro ?_ ?_ | rfl)); done) rfl ?_
      | refine callB (h2) rfl rfl rfl rfl rfl rfl rfl rfl rfl trivial ⟨rfl, rfl, rfl, trivial⟩ rfl rfl rfl rfl rfl rfl rfl rfl ?_)
    | (refine gate 5 rfl ?_; first
      | refine litR rfl rfl rfl rfl rfl rfl rfl rfl ?_
      | refine litW rfl rfl rfl rfl rfl rfl ?_)
    | (refine gate 2 rfl ?_; first
      | refine apOS rfl rfl rfl rfl rfl rfl rfl rfl rfl rfl rfl ?_ ?_ ?_
      | refine apOL rfl rfl rfl rfl rfl rfl rfl rfl rfl rfl rfl rfl ?_ ?_ ?_
      | refine apNS rfl rfl rfl rfl rfl rfl rfl rfl rfl rfl rfl ?_ ?_ ?_
      | refine apNL rfl rfl rfl rfl rfl rfl rfl rfl rfl rfl rfl rfl ?_ ?_ ?_
      | refine apDO rfl rfl rfl rfl rfl rfl rfl rfl rfl rfl rfl rfl rfl rfl ?_ ?_ ?_
      | refine apDN rfl rfl rfl rfl rfl rfl rfl rfl rfl rfl rfl rfl rfl rfl ?_ ?_ ?_
      | refine op_apMk _ rfl rfl rfl rfl rfl rfl rfl rfl rfl rfl rfl rfl rfl ?_ ?_ ?_ ?_
      | refine apDS rfl rfl rfl rfl rfl rfl rfl rfl rfl rfl rfl ?_ ?_ ?_)
    | (refine gate 6 rfl ?_; refine mkS rfl rfl rfl rfl rfl rfl rfl rfl rfl rfl rfl rfl rfl ?_ ?_ ?_ ?_)
    | (refine gate 6 rfl ?_; refine op_makeD _ rfl rfl rfl rfl rfl rfl rfl rfl rfl rfl rfl rfl rfl ?_ ?_ ?_ ?_)
    | (refine gate 0 rfl ?_; refine op_storeD rfl rfl rfl rfl rfl rfl rfl rfl rfl rfl ?_)
    | (refine gate 3 rfl ?_; refine op_capN rfl rfl rfl rfl rfl ?_)
    | (refine gate 3 rfl ?_; refine op_copy rfl rfl rfl rfl rfl rfl rfl rfl rfl rfl rfl ?_)
    | (refine gate 8 rfl ?_; refine op_mkFn rfl rfl rfl rfl ?_)
    | (refine gate 7 rfl ?_; refine op_nil rfl rfl rfl rfl rfl rfl (fun b hb => ?_))
    | (refine inW ?_; first
      | refine W_seq ?_
      | refine W_region ?_
      | refine W_drawN (by decide +kernel) ?_
      | refine W_block ?_
      | refine W_skip ?_
      | refine W_exit ?_
      | refine W_ret ?_
      | refine W_condT rfl rfl ?_
      | refine W_condF rfl rfl ?_
      | (refine W_condB rfl ?_ ?_ <;> intro hq <;> try (exfalso; (simp_all) <;> omega)))
    | (refine inE ?_; first
      | refine end_d rfl rfl rfl rfl ?_ ?_
      | refine end_o rfl rfl rfl rfl ?_ ?_
      | refine end_of rfl rfl rfl ?_ ?_)
    | refine rsOne ?_
    | refine msPd rfl ?_
    | refine msPn ?_
    | refine msPo rfl ?_
    | refine And.intro ?_ ?_
    | (show List.length _ ≠ 1; simp)
    | (show (_ : Int) ≤ _; first | omega | (simp [IntKind.bits, dflt]; done) | (simp [IntKind.bits, dflt]; omega) | (simp at *; omega))
    | (show (_ : Int) < _; first | omega | (simp [IntKind.bits, dflt]; done) | (simp [IntKind.bits, dflt]; omega) | (simp at *; omega))
    | (show (_ : Nat) ≤ _; first | omega | (unfold maxLen; omega) | (simp [IntKind.bits, dflt]; done) | (simp [IntKind.bits, dflt]; omega) | (simp at *; omega))
    | rfl)
set_option maxHeartbeats 4000000 in
set_option maxRecDepth 20000 in
theorem drawsby_ex (code : List UInt8) (hl : code.length ≤ 16777216) : ∃ r : List Ed × List Ed, (r.1.length ≤ 8 ∧ r.2.length ≤ 8 ∧ (∀ e ∈ r.1, e.2.2.length ≤ 401) ∧ (∀ e ∈ r.2, e.2.2.length ≤ 401)) ∧ FnC Try.prog 29 [aBy code] [aX] (.ag [oEs r.1, oEs r.2]) := by
  have ho := open_ok code hl
  obtain ⟨q, b1, b2, b3, b4, n1, h1⟩ := stack_ex code 0 _ hl (open_b (n := code.length)) (by decide)
  refine ⟨(q.1, q.2.1), ⟨b1, b2, b3, b4⟩, ?_⟩
  refine FnC_of (fn := Try.f29) Try.func29 rfl rfl rfl ?_
  repeat' (first
    | exact trivial
    | (refine inWO ?_; first
      | refine WO_runE (nw := true) rfl rfl ?_ ?_
      | refine WO_runG (nw := true) rfl rfl rfl rfl rfl ?_ ?_
      | refine WO_runU (nw := true) rfl rfl rfl rfl rfl ?_ ?_
      | refine WO_run1 (nw := true) rfl rfl ?_ ?_
      | refine WO_cons rfl ?_
      | refine WO_gT rfl rfl rfl rfl rfl ?_
      | (refine WO_split rfl rfl rfl rfl ?_ ?_ <;> intro hq <;> try (exfalso; (simp_all) <;> omega))
      | refine WO_nil ?_)
    | (refine inRW ?_; first
      | refine RW_runE (nw := true) rfl rfl (fun _ _ => rfl) rfl ?_ ?_
      | refine RW_runG (nw := true) rfl rfl rfl rfl rfl (fun _ _ => rfl) rfl ?_ ?_
      | refine RW_runU (nw := true) rfl rfl rfl rfl rfl (fun _ _ => rfl) rfl ?_ ?_
      | refine RW_op (us := ?_) (ub := ?_) (fp := ?_) rfl (fun s0 b0 => ?_) ?_ ?_
      | refine RW_opT (us := ?_) (ub := ?_) (fp := ?_) rfl rfl rfl rfl (fun s0 b0 => ?_) ?_ ?_
      | (refine RW_split rfl rfl rfl ?_ ?_ <;> intro hq <;> try (exfalso; (simp_all) <;> omega))
      | refine RW_nil ?_ (by first | decide +kernel | kernel_rfl))
    | (refine gate 1 rfl ?_; first
      | refine op_callBx (ho) rfl rfl rfl rfl (by (repeat' (first | exact trivial | refine And.intro ?_ ?_ | rfl)); done) rfl ?_
      | refine callB (h1) rfl rfl rfl rfl rfl rfl rfl rfl rfl trivial ⟨rfl, rfl, rfl, trivial⟩ rfl rfl rfl rfl rfl rfl rfl rfl ?_)
    | (refine gate 5 rfl ?_; first
      | refine litR rfl rfl rfl rfl rfl rfl rfl rfl ?_
      | refine litW rfl rfl rfl rfl rfl rfl ?_)
    | (refine gate 2 rfl ?_; first
      | refine apOS rfl rfl rfl rfl rfl rfl rfl rfl rfl rfl rfl ?_ ?_ ?_
      | refine apOL rfl rfl rfl rfl rfl rfl rfl rfl rfl rfl rfl rfl ?_ ?_ ?_
      | refine apNS rfl rfl rfl rfl rfl rfl rfl rfl rfl rfl rfl ?_ ?_ ?_
      | refine apNL rfl rfl rfl rfl rfl rfl rfl rfl rfl rfl rfl rfl ?_ ?_ ?_
      | refine apDO rfl rfl rfl rfl rfl rfl rfl rfl rfl rfl rfl rfl rfl rfl ?_ ?_ ?_
      | refine apDN rfl rfl rfl rfl rfl rfl rfl rfl rfl rfl rfl rfl rfl rfl ?_ ?_ ?_
      | refine op_apMk _ rfl rfl rfl rfl rfl rfl rfl rfl rfl rfl rfl rfl rfl ?_ ?_ ?_ ?_
      | refine apDS rfl rfl rfl rfl rfl rfl rfl rfl rfl rfl rfl ?_ ?_ ?_)
    | (refine gate 6 rfl ?_; refine mkS rfl rfl rfl rfl rfl rfl rfl rfl rfl rfl rfl rfl rfl ?_ ?_ ?_ ?_)
    | (refine gate 6 rfl ?_; refine op_makeD _ rfl rfl rfl rfl rfl rfl rfl rfl rfl rfl rfl rfl rfl ?_ ?_ ?_ ?_)
    | (refine gate 0 rfl ?_; refine op_storeD rfl rfl rfl rfl rfl rfl rfl rfl rfl rfl ?_)
    | (refine gate 3 rfl ?_; refine op_capN rfl rfl rfl rfl rfl ?_)
    | (refine gate 3 rfl ?_; refine op_copy rfl rfl rfl rfl rfl rfl rfl rfl rfl rfl rfl ?_)
    | (refine gate 8 rfl ?_; refine op_mkFn rfl rfl rfl rfl ?_)
    | (refine gate 7 rfl ?_; refine op_nil rfl rfl rfl rfl rfl rfl (fun b hb => ?_))
    | (refine inW ?_; first
      | refine W_seq ?_
      | refine W_region ?_
      | refine W_drawN (by decide +kernel) ?_
      | refine W_block ?_
      | refine W_skip ?_
      | refine W_exit ?_
      | refine W_ret ?_
      | refine W_condT rfl rfl ?_
      | refine W_condF rfl rfl ?_
      | (refine W_condB rfl ?_ ?_ <;> intro hq <;> try (exfalso; (simp_all) <;> omega)))
    | (refine inE ?_; first
      | refine end_d rfl rfl rfl rfl ?_ ?_
      | refine end_o rfl rfl rfl rfl ?_ ?_
      | refine end_of rfl rfl rfl ?_ ?_)
    | refine rsOne ?_
    | refine msPd rfl ?_
    | refine msPn ?_
    | refine msPo rfl ?_
    | refine And.intro ?_ ?_
    | (show List.length _ ≠ 1; simp)
    | (show (_ : Int) ≤ _; first | omega | (simp [IntKind.bits, dflt]; done) | (simp [IntKind.bits, dflt]; omega) | (simp at *; omega))
    | (show (_ : Int) < _; first | omega | (simp [IntKind.bits, dflt]; done) | (simp [IntKind.bits, dflt]; omega) | (simp at *; omega))
    | (show (_ : Nat) ≤ _; first | omega | (unfold maxLen; omega) | (simp [IntKind.bits, dflt]; done) | (simp [IntKind.bits, dflt]; omega) | (simp at *; omega))
    | rfl)
set_option maxHeartbeats 4000000 in
set_option maxRecDepth 20000 in
theorem lawSS_big (code : List UInt8) (hl : 1048576 < code.length) : FnC Try.prog 6 [aBy code] [aX] (.one (sB true)) := by
  refine FnC_of (fn := Try.f6) Try.func6 rfl rfl rfl ?_
  repeat' (first
    | exact trivial
    | (refine inWO ?_; first
      | refine WO_runE (nw := true) rfl rfl ?_ ?_
      | refine WO_runG (nw := true) rfl rfl rfl rfl rfl ?_ ?_
      | refine WO_runU (nw := true) rfl rfl rfl rfl rfl ?_ ?_
      | refine WO_run1 (nw := true) rfl rfl ?_ ?_
      | refine WO_cons rfl ?_
      | refine WO_gT rfl rfl rfl rfl rfl ?_
      | (refine WO_split rfl rfl rfl rfl ?_ ?_ <;> intro hq <;> try (exfalso; (simp_all) <;> omega))
      | refine WO_nil ?_)
    | (refine inRW ?_; first
      | refine RW_runE (nw := true) rfl rfl (fun _ _ => rfl) rfl ?_ ?_
      | refine RW_runG (nw := true) rfl rfl rfl rfl rfl (fun _ _ => rfl) rfl ?_ ?_
      | refine RW_runU (nw := true) rfl rfl rfl rfl rfl (fun _ _ => rfl) rfl ?_ ?_
      | refine RW_op (us := ?_) (ub := ?_) (fp := ?_) rfl (fun s0 b0 => ?_) ?_ ?_
      | refine RW_opT (us := ?_) (ub := ?_) (fp := ?_) rfl rfl rfl rfl (fun s0 b0 => ?_) ?_ ?_
      | (refine RW_split rfl rfl rfl ?_ ?_ <;> intro hq <;> try (exfalso; (simp_all) <;> omega))
      | refine RW_nil ?_ (by first | decide +kernel | kernel_rfl))
    | (refine gate 1 rfl ?_; first
      | refine callD false (big_ok _) rfl rfl rfl rfl (by (repeat' (first | exact trivial | refine And.intro ?_ ?_ | rfl)); done) rfl rfl ?_)
    | (refine gate 5 rfl ?_; first
      | refine litR rfl rfl rfl rfl rfl rfl rfl rfl ?_
      | refine litW rfl rfl rfl rfl rfl rfl ?_)
    | (refine gate 2 rfl ?_; first
      | refine apOS rfl rfl rfl rfl rfl rfl rfl rfl rfl rfl rfl ?_ ?_ ?_
      | refine apOL rfl rfl rfl rfl rfl rfl rfl rfl rfl rfl rfl rfl ?_ ?_ ?_
      | refine apNS rfl rfl rfl rfl rfl rfl rfl rfl rfl rfl rfl ?_ ?_ ?_
      | refine apNL rfl rfl rfl rfl rfl rfl rfl rfl rfl rfl rfl rfl ?_ ?_ ?_
      | refine apDO rfl rfl rfl rfl rfl rfl rfl rfl rfl rfl rfl rfl rfl rfl ?_ ?_ ?_
      | refine apDN rfl rfl rfl rfl rfl rfl rfl rfl rfl rfl rfl rfl rfl rfl ?_ ?_ ?_
      | refine op_apMk _ rfl rfl rfl rfl rfl rfl rfl rfl rfl rfl rfl rfl rfl ?_ ?_ ?_ ?_
      | refine apDS rfl rfl rfl rfl rfl rfl rfl rfl rfl rfl rfl ?_ ?_ ?_)
    | (refine gate 6 rfl ?_; refine mkS rfl rfl rfl rfl rfl rfl rfl rfl rfl rfl rfl rfl rfl ?_ ?_ ?_ ?_)
    | (refine gate 6 rfl ?_; refine op_makeD _ rfl rfl rfl rfl rfl rfl rfl rfl rfl rfl rfl rfl rfl ?_ ?_ ?_ ?_)
    | (refine gate 0 rfl ?_; refine op_storeD rfl rfl rfl rfl rfl rfl rfl rfl rfl rfl ?_)
    | (refine gate 3 rfl ?_; refine op_capN rfl rfl rfl rfl rfl ?_)
    | (refine gate 3 rfl ?_; refine op_copy rfl rfl rfl rfl rfl rfl rfl rfl rfl rfl rfl ?_)
    | (refine gate 8 rfl ?_; refine op_mkFn rfl rfl rfl rfl ?_)
    | (refine gate 7 rfl ?_; refine op_nil rfl rfl rfl rfl rfl rfl (fun b hb => ?_))
    | (refine inW ?_; first
      | refine W_seq ?_
      | refine W_region ?_
      | refine W_drawN (by decide +kernel) ?_
      | refine W_block ?_
      | refine W_skip ?_
      | refine W_exit ?_
      | refine W_ret ?_
      | refine W_condT rfl rfl ?_
      | refine W_condF rfl rfl ?_
      | (refine W_condB rfl ?_ ?_ <;> intro hq <;> try (exfalso; (simp_all) <;> omega)))
    | (refine inE ?_; first
      | refine end_d rfl rfl rfl rfl ?_ ?_
      | refine end_o rfl rfl rfl rfl ?_ ?_
      | refine end_of rfl rfl rfl ?_ ?_)
    | refine rsOne ?_
    | refine msPd rfl ?_
    | refine msPn ?_
    | refine msPo rfl ?_
    | refine And.intro ?_ ?_
    | (show List.length _ ≠ 1; simp)
    | (show (_ : Int) ≤ _; first | omega | (simp [IntKind.bits, dflt]; done) | (simp [IntKind.bits, dflt]; omega) | (simp at *; omega))
    | (show (_ : Int) < _; first | omega | (simp [IntKind.bits, dflt]; done) | (simp [IntKind.bits, dflt]; omega) | (simp at *; omega))
    | (show (_ : Nat) ≤ _; first | omega | (unfold maxLen; omega) | (simp [IntKind.bits, dflt]; done) | (simp [IntKind.bits, dflt]; omega) | (simp at *; omega))
    | rfl)
abbrev stBy (xs ys : List Ed) : List UInt8 := if (allS xs && allS ys) = true then esB xs ++ esB ys else []
theorem stBy_len {xs ys : List Ed} : (stBy xs ys).length ≤ 16777216 := by
  unfold stBy
  split
  · rename_i h
    rw [Bool.and_eq_true] at h
    have h1 := allS_len h.1
    have h2 := allS_len h.2
    have h3 := esB_len (xs := xs)
    have h4 := esB_len (xs := ys)
    rw [List.length_append]
    omega
  · simp
theorem stBy_pos {xs ys : List Ed} : decide ((0 : Int) < (stBy xs ys).length) = (allS xs && allS ys) := by
  cases h : (allS xs && allS ys) with
  | true =>
    refine decide_eq_true ?_
    rw [stBy, if_pos h, List.length_append, esB, List.length_cons]
    omega
  | false =>
    refine decide_eq_false ?_
    rw [stBy, if_neg (by rw [h]; simp)]
    simp
theorem seB_pos {e : Ed} (h : smE e = true) : (seB e).length = 6 + e.2.2.length := by rw [seB, if_pos h, eBy_len]
set_option maxHeartbeats 4000000 in
set_option maxRecDepth 20000 in
theorem lawSS_one (code : List UInt8) (e : Ed) (xs ys : List Ed) (hl : code.length ≤ 1048576) (hx : xs.length ≤ 8) (hy : ys.length ≤ 8) (hd : FnC Try.prog 28 [aBy code] [aX] (.ag [sI e.1, sI e.2.1, oBy e.2.2])) (hd2 : FnC Try.prog 29 [aBy code] [aX] (.ag [oEs xs, oEs ys]))
    (h : smE e = false) : FnC Try.prog 6 [aBy code] [aX] (.one (sB true)) := by
  have h1 := sebytes_ok e
  have h2 := iebytes_ok e
  rw [seB, if_neg (by rw [h]; simp)] at h1 h2
  have h3 := stackok_ok xs ys (by omega) (by omega)
  have h4 := istackbytes1_ok xs ys (by omega) (by omega)
  have hp := stBy_pos (xs := xs) (ys := ys)
  change FnC Try.prog 32 [aSt xs ys] [aSt0] (.one (oBy (stBy xs ys))) at h4
  generalize stBy xs ys = S at *
  clear h
  refine FnC_of (fn := Try.f6) Try.func6 rfl rfl rfl ?_
  repeat' (first
    | exact trivial
    | (refine inWO ?_; first
      | refine WO_runE (nw := true) rfl rfl ?_ ?_
      | refine WO_runG (nw := true) rfl rfl rfl rfl rfl ?_ ?_
      | refine WO_runU (nw := true) rfl rfl rfl rfl rfl ?_ ?_
      | refine WO_run1 (nw := true) rfl rfl ?_ ?_
      | refine WO_cons rfl ?_
      | refine WO_gT rfl rfl rfl rfl rfl ?_
      | (refine WO_split rfl rfl rfl rfl ?_ ?_ <;> intro hq <;> try (exfalso; (simp_all) <;> omega))
      | refine WO_nil ?_)
    | (refine inRW ?_; first
      | refine RW_runE (nw := true) rfl rfl (fun _ _ => rfl) rfl ?_ ?_
      | refine RW_runG (nw := true) rfl rfl rfl rfl rfl (fun _ _ => rfl) rfl ?_ ?_
      | refine RW_runU (nw := true) rfl rfl rfl rfl rfl (fun _ _ => rfl) rfl ?_ ?_
      | refine RW_op (us := ?_) (ub := ?_) (fp := ?_) rfl (fun s0 b0 => ?_) ?_ ?_
      | refine RW_opT (us := ?_) (ub := ?_) (fp := ?_) rfl rfl rfl rfl (fun s0 b0 => ?_) ?_ ?_
      | (refine RW_split rfl rfl rfl ?_ ?_ <;> intro hq <;> try (exfalso; (simp_all) <;> omega))
      | refine RW_nil ?_ (by first | decide +kernel | kernel_rfl))
    | (refine gate 1 rfl ?_; first
      | refine callD false (big_ok _) rfl rfl rfl rfl (by (repeat' (first | exact trivial | refine And.intro ?_ ?_ | rfl)); done) rfl rfl ?_
      | refine callD false (hd) rfl rfl rfl rfl (by (repeat' (first | exact trivial | refine And.intro ?_ ?_ | rfl)); done) rfl rfl ?_
      | refine callD false (hd2) rfl rfl rfl rfl (by (repeat' (first | exact trivial | refine And.intro ?_ ?_ | rfl)); done) rfl rfl ?_)
    | (refine gate 5 rfl ?_; first
      | refine litR rfl rfl rfl rfl rfl rfl rfl rfl ?_
      | refine litW rfl rfl rfl rfl rfl rfl ?_)
    | (refine gate 2 rfl ?_; first
      | refine apOS rfl rfl rfl rfl rfl rfl rfl rfl rfl rfl rfl ?_ ?_ ?_
      | refine apOL rfl rfl rfl rfl rfl rfl rfl rfl rfl rfl rfl rfl ?_ ?_ ?_
      | refine apNS rfl rfl rfl rfl rfl rfl rfl rfl rfl rfl rfl ?_ ?_ ?_
      | refine apNL rfl rfl rfl rfl rfl rfl rfl rfl rfl rfl rfl rfl ?_ ?_ ?_
      | refine apDO rfl rfl rfl rfl rfl rfl rfl rfl rfl rfl rfl rfl rfl rfl ?_ ?_ ?_
      | refine apDN rfl rfl rfl rfl rfl rfl rfl rfl rfl rfl rfl rfl rfl rfl ?_ ?_ ?_
      | refine op_apMk _ rfl rfl rfl rfl rfl rfl rfl rfl rfl rfl rfl rfl rfl ?_ ?_ ?_ ?_
      | refine apDS rfl rfl rfl rfl rfl rfl rfl rfl rfl rfl rfl ?_ ?_ ?_)
    | (refine gate 6 rfl ?_; refine mkS rfl rfl rfl rfl rfl rfl rfl rfl rfl rfl rfl rfl rfl ?_ ?_ ?_ ?_)
    | (refine gate 6 rfl ?_; refine op_makeD _ rfl rfl rfl rfl rfl rfl rfl rfl rfl rfl rfl rfl rfl ?_ ?_ ?_ ?_)
    | (refine gate 0 rfl ?_; refine op_storeD rfl rfl rfl rfl rfl rfl rfl rfl rfl rfl ?_)
    | (refine gate 3 rfl ?_; refine op_capN rfl rfl rfl rfl rfl ?_)
    | (refine gate 3 rfl ?_; refine op_copy rfl rfl rfl rfl rfl rfl rfl rfl rfl rfl rfl ?_)
    | (refine gate 8 rfl ?_; refine op_mkFn rfl rfl rfl rfl ?_)
    | (refine gate 7 rfl ?_; refine op_nil rfl rfl rfl rfl rfl rfl (fun b hb => ?_))
    | (refine inW ?_; first
      | refine W_seq ?_
      | refine W_region ?_
      | refine W_drawN (by decide +kernel) ?_
      | refine W_block ?_
      | refine W_skip ?_
      | refine W_exit ?_
      | refine W_ret ?_
      | refine W_condT rfl rfl ?_
      | refine W_condF rfl rfl ?_
      | (refine W_condB rfl ?_ ?_ <;> intro hq <;> try (exfalso; (simp_all) <;> omega)))
    | (refine inE ?_; first
      | refine end_d rfl rfl rfl rfl ?_ ?_
      | refine end_o rfl rfl rfl rfl ?_ ?_
      | refine end_of rfl rfl rfl ?_ ?_)
    | refine rsOne ?_
    | refine msPd rfl ?_
    | refine msPn ?_
    | refine msPo rfl ?_
    | refine And.intro ?_ ?_
    | (show List.length _ ≠ 1; simp)
    | (show (_ : Int) ≤ _; first | omega | (simp [IntKind.bits, dflt]; done) | (simp [IntKind.bits, dflt]; omega) | (simp at *; omega))
    | (show (_ : Int) < _; first | omega | (simp [IntKind.bits, dflt]; done) | (simp [IntKind.bits, dflt]; omega) | (simp at *; omega))
    | (show (_ : Nat) ≤ _; first | omega | (unfold maxLen; omega) | (simp [IntKind.bits, dflt]; done) | (simp [IntKind.bits, dflt]; omega) | (simp at *; omega))
    | rfl)
  refine OpW_weak (Wk_freeze (o := 16002) rfl) ?_
  refine OpW_weak (Wk_freeze (o := 18000) rfl) ?_
  refine OpW_weak (Wk_freeze (o := 18001) rfl) ?_
  repeat' (first
    | exact trivial
    | (refine inWO ?_; first
      | refine WO_runE (nw := true) rfl rfl ?_ ?_
      | refine WO_runG (nw := true) rfl rfl rfl rfl rfl ?_ ?_
      | refine WO_runU (nw := true) rfl rfl rfl rfl rfl ?_ ?_
      | refine WO_run1 (nw := true) rfl rfl ?_ ?_
      | refine WO_cons rfl ?_
      | refine WO_gT rfl rfl rfl rfl rfl ?_
      | (refine WO_split rfl rfl rfl rfl ?_ ?_ <;> intro hq <;> try (exfalso; (simp_all) <;> omega))
      | refine WO_nil ?_)
    | (refine inRW ?_; first
      | refine RW_runE (nw := true) rfl rfl (fun _ _ => rfl) rfl ?_ ?_
      | refine RW_runG (nw := true) rfl rfl rfl rfl rfl (fun _ _ => rfl) rfl ?_ ?_
      | refine RW_runU (nw := true) rfl rfl rfl rfl rfl (fun _ _ => rfl) rfl ?_ ?_
      | refine RW_op (us := ?_) (ub := ?_) (fp := ?_) rfl (fun s0 b0 => ?_) ?_ ?_
      | refine RW_opT (us := ?_) (ub := ?_) (fp := ?_) rfl rfl rfl rfl (fun s0 b0 => ?_) ?_ ?_
      | (refine RW_split rfl rfl rfl ?_ ?_ <;> intro hq <;> try (exfalso; (simp_all) <;> omega))
      | refine RW_nil ?_ (by first | decide +kernel | kernel_rfl))
    | (refine gate 1 rfl ?_; first
      | refine callD false (h1) rfl rfl rfl rfl (by (repeat' (first | exact trivial | refine And.intro ?_ ?_ | rfl)); done) rfl rfl ?_
      | refine callD false (h2) rfl rfl rfl rfl (by (repeat' (first | exact trivial | refine And.intro ?_ ?_ | rfl)); done) rfl rfl ?_
      | refine callD false (h3) rfl rfl rfl rfl (by (repeat' (first | exact trivial | refine And.intro ?_ ?_ | rfl)); done) rfl rfl ?_
      | refine callD false (h4) rfl rfl rfl rfl (by (repeat' (first | exact trivial | refine And.intro ?_ ?_ | rfl)); done) rfl rfl ?_)
    | (refine gate 5 rfl ?_; first
      | refine litR rfl rfl rfl rfl rfl rfl rfl rfl ?_
      | refine litW rfl rfl rfl rfl rfl rfl ?_)
    | (refine gate 2 rfl ?_; first
      | refine apOS rfl rfl rfl rfl rfl rfl rfl rfl rfl rfl rfl ?_ ?_ ?_
      | refine apOL rfl rfl rfl rfl rfl rfl rfl rfl rfl rfl rfl rfl ?_ ?_ ?_
      | refine apNS rfl rfl rfl rfl rfl rfl rfl rfl rfl rfl rfl ?_ ?_ ?_
      | refine apNL rfl rfl rfl rfl rfl rfl rfl rfl rfl rfl rfl rfl ?_ ?_ ?_
      | refine apDO rfl rfl rfl rfl rfl rfl rfl rfl rfl rfl rfl rfl rfl rfl ?_ ?_ ?_
      | refine apDN rfl rfl rfl rfl rfl rfl rfl rfl rfl rfl rfl rfl rfl rfl ?_ ?_ ?_
      | refine op_apMk _ rfl rfl rfl rfl rfl rfl rfl rfl rfl rfl rfl rfl rfl ?_ ?_ ?_ ?_
      | refine apDS rfl rfl rfl rfl rfl rfl rfl rfl rfl rfl rfl ?_ ?_ ?_)
    | (refine gate 6 rfl ?_; refine mkS rfl rfl rfl rfl rfl rfl rfl rfl rfl rfl rfl rfl rfl ?_ ?_ ?_ ?_)
    | (refine gate 6 rfl ?_; refine op_makeD _ rfl rfl rfl rfl rfl rfl rfl rfl rfl rfl rfl rfl rfl ?_ ?_ ?_ ?_)
    | (refine gate 0 rfl ?_; refine op_storeD rfl rfl rfl rfl rfl rfl rfl rfl rfl rfl ?_)
    | (refine gate 3 rfl ?_; refine op_capN rfl rfl rfl rfl rfl ?_)
    | (refine gate 3 rfl ?_; refine op_copy rfl rfl rfl rfl rfl rfl rfl rfl rfl rfl rfl ?_)
    | (refine gate 8 rfl ?_; refine op_mkFn rfl rfl rfl rfl ?_)
    | (refine gate 7 rfl ?_; refine op_nil rfl rfl rfl rfl rfl rfl (fun b hb => ?_))
    | (refine inW ?_; first
      | refine W_seq ?_
      | refine W_region ?_
      | refine W_drawN (by decide +kernel) ?_
      | refine W_block ?_
      | refine W_skip ?_
      | refine W_exit ?_
      | refine W_ret ?_
      | refine W_condT rfl rfl ?_
      | refine W_condF rfl rfl ?_
      | (refine W_condB rfl ?_ ?_ <;> intro hq <;> try (exfalso; (simp_all) <;> omega)))
    | (refine inE ?_; first
      | refine end_d rfl rfl rfl rfl ?_ ?_
      | refine end_o rfl rfl rfl rfl ?_ ?_
      | refine end_of rfl rfl rfl ?_ ?_)
    | refine rsOne ?_
    | refine msPd rfl ?_
    | refine msPn ?_
    | refine msPo rfl ?_
    | refine And.intro ?_ ?_
    | (show List.length _ ≠ 1; simp)
    | (show (_ : Int) ≤ _; first | omega | (simp [IntKind.bits, dflt]; done) | (simp [IntKind.bits, dflt]; omega) | (simp at *; omega))
    | (show (_ : Int) < _; first | omega | (simp [IntKind.bits, dflt]; done) | (simp [IntKind.bits, dflt]; omega) | (simp at *; omega))
    | (show (_ : Nat) ≤ _; first | omega | (unfold maxLen; omega) | (simp [IntKind.bits, dflt]; done) | (simp [IntKind.bits, dflt]; omega) | (simp at *; omega))
    | rfl)
  show (decide ((0 : Int) < (S.length : Nat)) == (allS xs && allS ys)) = true
  rw [hp]; simp
set_option maxHeartbeats 4000000 in
set_option maxRecDepth 20000 in
theorem lawSS_two (code : List UInt8) (e : Ed) (xs ys : List Ed) (hl : code.length ≤ 1048576) (hx : xs.length ≤ 8) (hy : ys.length ≤ 8) (hd : FnC Try.prog 28 [aBy code] [aX] (.ag [sI e.1, sI e.2.1, oBy e.2.2])) (hd2 : FnC Try.prog 29 [aBy code] [aX] (.ag [oEs xs, oEs ys]))
    (h0 : smE e = true) (h : (allS xs && allS ys) = false) : FnC Try.prog 6 [aBy code] [aX] (.one (sB true)) := by
  have h1 := sebytes_ok e
  have h2 := iebytes_ok e
  have h3 := stackok_ok xs ys (by omega) (by omega)
  have h4 := istackbytes1_ok xs ys (by omega) (by omega)
  rw [if_neg (by rw [h]; simp)] at h4
  rw [h] at h3
  have hz : decide (((seB e).length : Int) = 0) = false := decide_eq_false (by rw [seB_pos h0]; omega)
  generalize seB e = B at *
  clear h h0
  refine FnC_of (fn := Try.f6) Try.func6 rfl rfl rfl ?_
  repeat' (first
    | exact trivial
    | (refine inWO ?_; first
      | refine WO_runE (nw := true) rfl rfl ?_ ?_
      | refine WO_runG (nw := true) rfl rfl rfl rfl rfl ?_ ?_
      | refine WO_runU (nw := true) rfl rfl rfl rfl rfl ?_ ?_
      | refine WO_run1 (nw := true) rfl rfl ?_ ?_
      | refine WO_cons rfl ?_
      | refine WO_gT rfl rfl rfl rfl rfl ?_
      | (refine WO_split rfl rfl rfl rfl ?_ ?_ <;> intro hq <;> try (exfalso; (simp_all) <;> omega))
      | refine WO_nil ?_)
    | (refine inRW ?_; first
      | refine RW_runE (nw := true) rfl rfl (fun _ _ => rfl) rfl ?_ ?_
      | refine RW_runG (nw := true) rfl rfl rfl rfl rfl (fun _ _ => rfl) rfl ?_ ?_
      | refine RW_runU (nw := true) rfl rfl rfl rfl rfl (fun _ _ => rfl) rfl ?_ ?_
      | refine RW_op (us := ?_) (ub := ?_) (fp := ?_) rfl (fun s0 b0 => ?_) ?_ ?_
      | refine RW_opT (us := ?_) (ub := ?_) (fp := ?_) rfl rfl rfl rfl (fun s0 b0 => ?_) ?_ ?_
      | (refine RW_split rfl rfl rfl ?_ ?_ <;> intro hq <;> try (exfalso; (simp_all) <;> omega))
      | refine RW_nil ?_ (by first | decide +kernel | kernel_rfl))
    | (refine gate 1 rfl ?_; first
      | refine callD false (big_ok _) rfl rfl rfl rfl (by (repeat' (first | exact trivial | refine And.intro ?_ ?_ | rfl)); done) rfl rfl ?_
      | refine callD false (hd) rfl rfl rfl rfl (by (repeat' (first | exact trivial | refine And.intro ?_ ?_ | rfl)); done) rfl rfl ?_
      | refine callD false (hd2) rfl rfl rfl rfl (by (repeat' (first | exact trivial | refine And.intro ?_ ?_ | rfl)); done) rfl rfl ?_)
    | (refine gate 5 rfl ?_; first
      | refine litR rfl rfl rfl rfl rfl rfl rfl rfl ?_
      | refine litW rfl rfl rfl rfl rfl rfl ?_)
    | (refine gate 2 rfl ?_; first
      | refine apOS rfl rfl rfl rfl rfl rfl rfl rfl rfl rfl rfl ?_ ?_ ?_
      | refine apOL rfl rfl rfl rfl rfl rfl rfl rfl rfl rfl rfl rfl ?_ ?_ ?_
      | refine apNS rfl rfl rfl rfl rfl rfl rfl rfl rfl rfl rfl ?_ ?_ ?_
      | refine apNL rfl rfl rfl rfl rfl rfl rfl rfl rfl rfl rfl rfl ?_ ?_ ?_
      | refine apDO rfl rfl rfl rfl rfl rfl rfl rfl rfl rfl rfl rfl rfl rfl ?_ ?_ ?_
      | refine apDN rfl rfl rfl rfl rfl rfl rfl rfl rfl rfl rfl rfl rfl rfl ?_ ?_ ?_
      | refine op_apMk _ rfl rfl rfl rfl rfl rfl rfl rfl rfl rfl rfl rfl rfl ?_ ?_ ?_ ?_
      | refine apDS rfl rfl rfl rfl rfl rfl rfl rfl rfl rfl rfl ?_ ?_ ?_)
    | (refine gate 6 rfl ?_; refine mkS rfl rfl rfl rfl rfl rfl rfl rfl rfl rfl rfl rfl rfl ?_ ?_ ?_ ?_)
    | (refine gate 6 rfl ?_; refine op_makeD _ rfl rfl rfl rfl rfl rfl rfl rfl rfl rfl rfl rfl rfl ?_ ?_ ?_ ?_)
    | (refine gate 0 rfl ?_; refine op_storeD rfl rfl rfl rfl rfl rfl rfl rfl rfl rfl ?_)
    | (refine gate 3 rfl ?_; refine op_capN rfl rfl rfl rfl rfl ?_)
    | (refine gate 3 rfl ?_; refine op_copy rfl rfl rfl rfl rfl rfl rfl rfl rfl rfl rfl ?_)
    | (refine gate 8 rfl ?_; refine op_mkFn rfl rfl rfl rfl ?_)
    | (refine gate 7 rfl ?_; refine op_nil rfl rfl rfl rfl rfl rfl (fun b hb => ?_))
    | (refine inW ?_; first
      | refine W_seq ?_
      | refine W_region ?_
      | refine W_drawN (by decide +kernel) ?_
      | refine W_block ?_
      | refine W_skip ?_
      | refine W_exit ?_
      | refine W_ret ?_
      | refine W_condT rfl rfl ?_
      | refine W_condF rfl rfl ?_
      | (refine W_condB rfl ?_ ?_ <;> intro hq <;> try (exfalso; (simp_all) <;> omega)))
    | (refine inE ?_; first
      | refine end_d rfl rfl rfl rfl ?_ ?_
      | refine end_o rfl rfl rfl rfl ?_ ?_
      | refine end_of rfl rfl rfl ?_ ?_)
    | refine rsOne ?_
    | refine msPd rfl ?_
    | refine msPn ?_
    | refine msPo rfl ?_
    | refine And.intro ?_ ?_
    | (show List.length _ ≠ 1; simp)
    | (show (_ : Int) ≤ _; first | omega | (simp [IntKind.bits, dflt]; done) | (simp [IntKind.bits, dflt]; omega) | (simp at *; omega))
    | (show (_ : Int) < _; first | omega | (simp [IntKind.bits, dflt]; done) | (simp [IntKind.bits, dflt]; omega) | (simp at *; omega))
    | (show (_ : Nat) ≤ _; first | omega | (unfold maxLen; omega) | (simp [IntKind.bits, dflt]; done) | (simp [IntKind.bits, dflt]; omega) | (simp at *; omega))
    | rfl)
  refine OpW_weak (Wk_freeze (o := 16002) rfl) ?_
  refine OpW_weak (Wk_freeze (o := 18000) rfl) ?_
  refine OpW_weak (Wk_freeze (o := 18001) rfl) ?_
  repeat' (first
    | exact trivial
    | (refine inWO ?_; first
      | refine WO_runE (nw := true) rfl rfl ?_ ?_
      | refine WO_runG (nw := true) rfl rfl rfl rfl rfl ?_ ?_
      | refine WO_runU (nw := true) rfl rfl rfl rfl rfl ?_ ?_
      | refine WO_run1 (nw := true) rfl rfl ?_ ?_
      | refine WO_cons rfl ?_
      | refine WO_gT rfl rfl rfl rfl rfl ?_
      | (refine WO_split rfl rfl rfl rfl ?_ ?_ <;> intro hq <;> try (exfalso; (simp_all) <;> omega))
      | refine WO_nil ?_)
    | (refine inRW ?_; first
      | refine RW_runE (nw := true) rfl rfl (fun _ _ => rfl) rfl ?_ ?_
      | refine RW_runG (nw := true) rfl rfl rfl rfl rfl (fun _ _ => rfl) rfl ?_ ?_
      | refine RW_runU (nw := true) rfl rfl rfl rfl rfl (fun _ _ => rfl) rfl ?_ ?_
      | refine RW_op (us := ?_) (ub := ?_) (fp := ?_) rfl (fun s0 b0 => ?_) ?_ ?_
      | refine RW_opT (us := ?_) (ub := ?_) (fp := ?_) rfl rfl rfl rfl (fun s0 b0 => ?_) ?_ ?_
      | (refine RW_split rfl rfl rfl ?_ ?_ <;> intro hq <;> try (exfalso; (simp_all) <;> omega))
      | refine RW_nil ?_ (by first | decide +kernel | kernel_rfl))
    | (refine gate 1 rfl ?_; first
      | refine callD false (h1) rfl rfl rfl rfl (by (repeat' (first | exact trivial | refine And.intro ?_ ?_ | rfl)); done) rfl rfl ?_
      | refine callD false (h2) rfl rfl rfl rfl (by (repeat' (first | exact trivial | refine And.intro ?_ ?_ | rfl)); done) rfl rfl ?_
      | refine callD false (h3) rfl rfl rfl rfl (by (repeat' (first | exact trivial | refine And.intro ?_ ?_ | rfl)); done) rfl rfl ?_
      | refine callD false (h4) rfl rfl rfl rfl (by (repeat' (first | exact trivial | refine And.intro ?_ ?_ | rfl)); done) rfl rfl ?_)
    | (refine gate 5 rfl ?_; first
      | refine litR rfl rfl rfl rfl rfl rfl rfl rfl ?_
      | refine litW rfl rfl rfl rfl rfl rfl ?_)
    | (refine gate 2 rfl ?_; first
      | refine apOS rfl rfl rfl rfl rfl rfl rfl rfl rfl rfl rfl ?_ ?_ ?_
      | refine apOL rfl rfl rfl rfl rfl rfl rfl rfl rfl rfl rfl rfl ?_ ?_ ?_
      | refine apNS rfl rfl rfl rfl rfl rfl rfl rfl rfl rfl rfl ?_ ?_ ?_
      | refine apNL rfl rfl rfl rfl rfl rfl rfl rfl rfl rfl rfl rfl ?_ ?_ ?_
      | refine apDO rfl rfl rfl rfl rfl rfl rfl rfl rfl rfl rfl rfl rfl rfl ?_ ?_ ?_
      | refine apDN rfl rfl rfl rfl rfl rfl rfl rfl rfl rfl rfl rfl rfl rfl ?_ ?_ ?_
      | refine op_apMk _ rfl rfl rfl rfl rfl rfl rfl rfl rfl rfl rfl rfl rfl ?_ ?_ ?_ ?_
      | refine apDS rfl rfl rfl rfl rfl rfl rfl rfl rfl rfl rfl ?_ ?_ ?_)
    | (refine gate 6 rfl ?_; refine mkS rfl rfl rfl rfl rfl rfl rfl rfl rfl rfl rfl rfl rfl ?_ ?_ ?_ ?_)
    | (refine gate 6 rfl ?_; refine op_makeD _ rfl rfl rfl rfl rfl rfl rfl rfl rfl rfl rfl rfl rfl ?_ ?_ ?_ ?_)
    | (refine gate 0 rfl ?_; refine op_storeD rfl rfl rfl rfl rfl rfl rfl rfl rfl rfl ?_)
    | (refine gate 3 rfl ?_; refine op_capN rfl rfl rfl rfl rfl ?_)
    | (refine gate 3 rfl ?_; refine op_copy rfl rfl rfl rfl rfl rfl rfl rfl rfl rfl rfl ?_)
    | (refine gate 8 rfl ?_; refine op_mkFn rfl rfl rfl rfl ?_)
    | (refine gate 7 rfl ?_; refine op_nil rfl rfl rfl rfl rfl rfl (fun b hb => ?_))
    | (refine inW ?_; first
      | refine W_seq ?_
      | refine W_region ?_
      | refine W_drawN (by decide +kernel) ?_
      | refine W_block ?_
      | refine W_skip ?_
      | refine W_exit ?_
      | refine W_ret ?_
      | refine W_condT rfl rfl ?_
      | refine W_condF rfl rfl ?_
      | (refine W_condB rfl ?_ ?_ <;> intro hq <;> try (exfalso; (simp_all) <;> omega)))
    | (refine inE ?_; first
      | refine end_d rfl rfl rfl rfl ?_ ?_
      | refine end_o rfl rfl rfl rfl ?_ ?_
      | refine end_of rfl rfl rfl ?_ ?_)
    | refine rsOne ?_
    | refine msPd rfl ?_
    | refine msPn ?_
    | refine msPo rfl ?_
    | refine And.intro ?_ ?_
    | (show List.length _ ≠ 1; simp)
    | (show (_ : Int) ≤ _; first | omega | (simp [IntKind.bits, dflt]; done) | (simp [IntKind.bits, dflt]; omega) | (simp at *; omega))
    | (show (_ : Int) < _; first | omega | (simp [IntKind.bits, dflt]; done) | (simp [IntKind.bits, dflt]; omega) | (simp at *; omega))
    | (show (_ : Nat) ≤ _; first | omega | (unfold maxLen; omega) | (simp [IntKind.bits, dflt]; done) | (simp [IntKind.bits, dflt]; omega) | (simp at *; omega))
    | rfl)
set_option maxHeartbeats 4000000 in
set_option maxRecDepth 20000 in
theorem lawSS_all (code : List UInt8) (e : Ed) (xs ys : List Ed) (hl : code.length ≤ 1048576) (hx : xs.length ≤ 8) (hy : ys.length ≤ 8) (hd : FnC Try.prog 28 [aBy code] [aX] (.ag [sI e.1, sI e.2.1, oBy e.2.2])) (hd2 : FnC Try.prog 29 [aBy code] [aX] (.ag [oEs xs, oEs ys]))
    (h0 : smE e = true) (h : (allS xs && allS ys) = true) : FnC Try.prog 6 [aBy code] [aX] (.one (sB true)) := by
  have h1 := sebytes_ok e
  have h2 := iebytes_ok e
  have h3 := stackok_ok xs ys (by omega) (by omega)
  have h4 := istackbytes1_ok xs ys (by omega) (by omega)
  rw [h] at h3
  rw [if_pos h] at h4
  obtain ⟨hx1, hy1⟩ := Bool.and_eq_true_iff.1 h
  have se := smE_ok h0
  have bl := seB_pos h0
  have b0 : decide (((seB e).length : Int) = 0) = false := decide_eq_false (by omega)
  have x6 := esB_len (xs := xs)
  have y6 := esB_len (xs := ys)
  have el : e.2.2.length ≤ 16777216 := by omega
  have e1 : seB e = eBy e := by rw [seB, if_pos h0]
  obtain ⟨all, hall⟩ : ∃ all, [UInt8.ofNat (Int.toNat 5)] ++ seB e ++ (esB xs ++ esB ys) ++ [UInt8.ofNat (Int.toNat 9), UInt8.ofNat (Int.toNat 9)] = all := ⟨_, rfl⟩
  have d1 : all.drop 1 = eBy e ++ ((esB xs ++ esB ys) ++ [UInt8.ofNat (Int.toNat 9), UInt8.ofNat (Int.toNat 9)]) := by rw [← hall, e1]; simp
  have al : all.length = (seB e).length + (esB xs).length + (esB ys).length + 3 := by rw [← hall]; simp; omega
  have r1 := rd_eBy d1 h0
  have d2 : all.drop (1 + 6 + e.2.2.length) = esB xs ++ (esB ys ++ [UInt8.ofNat (Int.toNat 9), UInt8.ofNat (Int.toNat 9)]) := by
    rw [show 1 + 6 + e.2.2.length = 1 + (eBy e).length by rw [eBy_len]; omega, ← List.drop_drop, d1, List.drop_left, List.append_assoc]
  obtain ⟨s1, s2, s3, s4⟩ := st_all d2 hx1 hy1
  have hl2 : all.length ≤ 16777216 := by omega
  have h5 := read_good all (1 : Nat) hl2 (by rw [r1])
  rw [r1] at h5
  have h6 := isr_good all (1 + 6 + e.2.2.length : Nat) hl2 s4
  rw [s1, s2, s3] at h6
  have h7 := sameedit_ok e e el el
  rw [sameE_refl] at h7
  have h8 := sameedits_ok xs (by omega) (fun z hz => Nat.le_trans (smE_ok (List.all_eq_true.1 (allS_al hx1) z hz)).2.2 (by decide))
  have h9 := sameedits_ok ys (by omega) (fun z hz => Nat.le_trans (smE_ok (List.all_eq_true.1 (allS_al hy1) z hz)).2.2 (by decide))
  have hend : decide (((1 + 6 + e.2.2.length + (esB xs).length + (esB ys).length : Nat) : Int) = all.length - 2) = true := decide_eq_true (by omega)
  clear r1 s1 s2 s3 s4 d1 d2 e1 h h0 hx1 hy1 se
  generalize seB e = B at *
  generalize esB xs = X at *
  generalize esB ys = Y at *
  refine FnC_of (fn := Try.f6) Try.func6 rfl rfl rfl ?_
  repeat' (first
    | exact trivial
    | (refine inWO ?_; first
      | refine WO_runE (nw := true) rfl rfl ?_ ?_
      | refine WO_runG (nw := true) rfl rfl rfl rfl rfl ?_ ?_
      | refine WO_runU (nw := true) rfl rfl rfl rfl rfl ?_ ?_
      | refine WO_run1 (nw := true) rfl rfl ?_ ?_
      | refine WO_cons rfl ?_
      | refine WO_gT rfl rfl rfl rfl rfl ?_
      | (refine WO_split rfl rfl rfl rfl ?_ ?_ <;> intro hq <;> try (exfalso; (simp_all) <;> omega))
      | refine WO_nil ?_)
    | (refine inRW ?_; first
      | refine RW_runE (nw := true) rfl rfl (fun _ _ => rfl) rfl ?_ ?_
      | refine RW_runG (nw := true) rfl rfl rfl rfl rfl (fun _ _ => rfl) rfl ?_ ?_
      | refine RW_runU (nw := true) rfl rfl rfl rfl rfl (fun _ _ => rfl) rfl ?_ ?_
      | refine RW_op (us := ?_) (ub := ?_) (fp := ?_) rfl (fun s0 b0 => ?_) ?_ ?_
      | refine RW_opT (us := ?_) (ub := ?_) (fp := ?_) rfl rfl rfl rfl (fun s0 b0 => ?_) ?_ ?_
      | (refine RW_split rfl rfl rfl ?_ ?_ <;> intro hq <;> try (exfalso; (simp_all) <;> omega))
      | refine RW_nil ?_ (by first | decide +kernel | kernel_rfl))
    | (refine gate 1 rfl ?_; first
      | refine callD false (big_ok _) rfl rfl rfl rfl (by (repeat' (first | exact trivial | refine And.intro ?_ ?_ | rfl)); done) rfl rfl ?_
      | refine callD false (hd) rfl rfl rfl rfl (by (repeat' (first | exact trivial | refine And.intro ?_ ?_ | rfl)); done) rfl rfl ?_
      | refine callD false (hd2) rfl rfl rfl rfl (by (repeat' (first | exact trivial | refine And.intro ?_ ?_ | rfl)); done) rfl rfl ?_)
    | (refine gate 5 rfl ?_; first
      | refine litR rfl rfl rfl rfl rfl rfl rfl rfl ?_
      | refine litW rfl rfl rfl rfl rfl rfl ?_)
    | (refine gate 2 rfl ?_; first
      | refine apOS rfl rfl rfl rfl rfl rfl rfl rfl rfl rfl rfl ?_ ?_ ?_
      | refine apOL rfl rfl rfl rfl rfl rfl rfl rfl rfl rfl rfl rfl ?_ ?_ ?_
      | refine apNS rfl rfl rfl rfl rfl rfl rfl rfl rfl rfl rfl ?_ ?_ ?_
      | refine apNL rfl rfl rfl rfl rfl rfl rfl rfl rfl rfl rfl rfl ?_ ?_ ?_
      | refine apDO rfl rfl rfl rfl rfl rfl rfl rfl rfl rfl rfl rfl rfl rfl ?_ ?_ ?_
      | refine apDN rfl rfl rfl rfl rfl rfl rfl rfl rfl rfl rfl rfl rfl rfl ?_ ?_ ?_
      | refine op_apMk _ rfl rfl rfl rfl rfl rfl rfl rfl rfl rfl rfl rfl rfl ?_ ?_ ?_ ?_
      | refine apDS rfl rfl rfl rfl rfl rfl rfl rfl rfl rfl rfl ?_ ?_ ?_)
    | (refine gate 6 rfl ?_; refine mkS rfl rfl rfl rfl rfl rfl rfl rfl rfl rfl rfl rfl rfl ?_ ?_ ?_ ?_)
    | (refine gate 6 rfl ?_; refine op_makeD _ rfl rfl rfl rfl rfl rfl rfl rfl rfl rfl rfl rfl rfl ?_ ?_ ?_ ?_)
    | (refine gate 0 rfl ?_; refine op_storeD rfl rfl rfl rfl rfl rfl rfl rfl rfl rfl ?_)
    | (refine gate 3 rfl ?_; refine op_capN rfl rfl rfl rfl rfl ?_)
    | (refine gate 3 rfl ?_; refine op_copy rfl rfl rfl rfl rfl rfl rfl rfl rfl rfl rfl ?_)
    | (refine gate 8 rfl ?_; refine op_mkFn rfl rfl rfl rfl ?_)
    | (refine gate 7 rfl ?_; refine op_nil rfl rfl rfl rfl rfl rfl (fun b hb => ?_))
    | (refine inW ?_; first
      | refine W_seq ?_
      | refine W_region ?_
      | refine W_drawN (by decide +kernel) ?_
      | refine W_block ?_
      | refine W_skip ?_
      | refine W_exit ?_
      | refine W_ret ?_
      | refine W_condT rfl rfl ?_
      | refine W_condF rfl rfl ?_
      | (refine W_condB rfl ?_ ?_ <;> intro hq <;> try (exfalso; (simp_all) <;> omega)))
    | (refine inE ?_; first
      | refine end_d rfl rfl rfl rfl ?_ ?_
      | refine end_o rfl rfl rfl rfl ?_ ?_
      | refine end_of rfl rfl rfl ?_ ?_)
    | refine rsOne ?_
    | refine msPd rfl ?_
    | refine msPn ?_
    | refine msPo rfl ?_
    | refine And.intro ?_ ?_
    | (show List.length _ ≠ 1; simp)
    | (show (_ : Int) ≤ _; first | omega | (simp [IntKind.bits, dflt]; done) | (simp [IntKind.bits, dflt]; omega) | (simp at *; omega))
    | (show (_ : Int) < _; first | omega | (simp [IntKind.bits, dflt]; done) | (simp [IntKind.bits, dflt]; omega) | (simp at *; omega))
    | (show (_ : Nat) ≤ _; first | omega | (unfold maxLen; omega) | (simp [IntKind.bits, dflt]; done) | (simp [IntKind.bits, dflt]; omega) | (simp at *; omega))
    | rfl)
  refine OpW_weak (Wk_freeze (o := 16002) rfl) ?_
  refine OpW_weak (Wk_freeze (o := 18000) rfl) ?_
  refine OpW_weak (Wk_freeze (o := 18001) rfl) ?_
  repeat' (first
    | exact trivial
    | (refine inWO ?_; first
      | refine WO_runE (nw := true) rfl rfl ?_ ?_
      | refine WO_runG (nw := true) rfl rfl rfl rfl rfl ?_ ?_
      | refine WO_runU (nw := true) rfl rfl rfl rfl rfl ?_ ?_
      | refine WO_run1 (nw := true) rfl rfl ?_ ?_
      | refine WO_cons rfl ?_
      | refine WO_gT rfl rfl rfl rfl rfl ?_
      | (refine WO_split rfl rfl rfl rfl ?_ ?_ <;> intro hq <;> try (exfalso; (simp_all) <;> omega))
      | refine WO_nil ?_)
    | (refine inRW ?_; first
      | refine RW_runE (nw := true) rfl rfl (fun _ _ => rfl) rfl ?_ ?_
      | refine RW_runG (nw := true) rfl rfl rfl rfl rfl (fun _ _ => rfl) rfl ?_ ?_
      | refine RW_runU (nw := true) rfl rfl rfl rfl rfl (fun _ _ => rfl) rfl ?_ ?_
      | refine RW_op (us := ?_) (ub := ?_) (fp := ?_) rfl (fun s0 b0 => ?_) ?_ ?_
      | refine RW_opT (us := ?_) (ub := ?_) (fp := ?_) rfl rfl rfl rfl (fun s0 b0 => ?_) ?_ ?_
      | (refine RW_split rfl rfl rfl ?_ ?_ <;> intro hq <;> try (exfalso; (simp_all) <;> omega))
      | refine RW_nil ?_ (by first | decide +kernel | kernel_rfl))
    | (refine gate 1 rfl ?_; first
      | refine callD false (h1) rfl rfl rfl rfl (by (repeat' (first | exact trivial | refine And.intro ?_ ?_ | rfl)); done) rfl rfl ?_
      | refine callD false (h2) rfl rfl rfl rfl (by (repeat' (first | exact trivial | refine And.intro ?_ ?_ | rfl)); done) rfl rfl ?_
      | refine callD false (h3) rfl rfl rfl rfl (by (repeat' (first | exact trivial | refine And.intro ?_ ?_ | rfl)); done) rfl rfl ?_
      | refine callD false (h4) rfl rfl rfl rfl (by (repeat' (first | exact trivial | refine And.intro ?_ ?_ | rfl)); done) rfl rfl ?_)
    | (refine gate 5 rfl ?_; first
      | refine litR rfl rfl rfl rfl rfl rfl rfl rfl ?_
      | refine litW rfl rfl rfl rfl rfl rfl ?_)
    | (refine gate 2 rfl ?_; first
      | refine apOS rfl rfl rfl rfl rfl rfl rfl rfl rfl rfl rfl ?_ ?_ ?_
      | refine apOL rfl rfl rfl rfl rfl rfl rfl rfl rfl rfl rfl rfl ?_ ?_ ?_
      | refine apNS rfl rfl rfl rfl rfl rfl rfl rfl rfl rfl rfl ?_ ?_ ?_
      | refine apNL rfl rfl rfl rfl rfl rfl rfl rfl rfl rfl rfl rfl ?_ ?_ ?_
      | refine apDO rfl rfl rfl rfl rfl rfl rfl rfl rfl rfl rfl rfl rfl rfl ?_ ?_ ?_
      | refine apDN rfl rfl rfl rfl rfl rfl rfl rfl rfl rfl rfl rfl rfl rfl ?_ ?_ ?_
      | refine op_apMk _ rfl rfl rfl rfl rfl rfl rfl rfl rfl rfl rfl rfl rfl ?_ ?_ ?_ ?_
      | refine apDS rfl rfl rfl rfl rfl rfl rfl rfl rfl rfl rfl ?_ ?_ ?_)
    | (refine gate 6 rfl ?_; refine mkS rfl rfl rfl rfl rfl rfl rfl rfl rfl rfl rfl rfl rfl ?_ ?_ ?_ ?_)
    | (refine gate 6 rfl ?_; refine op_makeD _ rfl rfl rfl rfl rfl rfl rfl rfl rfl rfl rfl rfl rfl ?_ ?_ ?_ ?_)
    | (refine gate 0 rfl ?_; refine op_storeD rfl rfl rfl rfl rfl rfl rfl rfl rfl rfl ?_)
    | (refine gate 3 rfl ?_; refine op_capN rfl rfl rfl rfl rfl ?_)
    | (refine gate 3 rfl ?_; refine op_copy rfl rfl rfl rfl rfl rfl rfl rfl rfl rfl rfl ?_)
    | (refine gate 8 rfl ?_; refine op_mkFn rfl rfl rfl rfl ?_)
    | (refine gate 7 rfl ?_; refine op_nil rfl rfl rfl rfl rfl rfl (fun b hb => ?_))
    | (refine inW ?_; first
      | refine W_seq ?_
      | refine W_region ?_
      | refine W_drawN (by decide +kernel) ?_
      | refine W_block ?_
      | refine W_skip ?_
      | refine W_exit ?_
      | refine W_ret ?_
      | refine W_condT rfl rfl ?_
      | refine W_condF rfl rfl ?_
      | (refine W_condB rfl ?_ ?_ <;> intro hq <;> try (exfalso; (simp_all) <;> omega)))
    | (refine inE ?_; first
      | refine end_d rfl rfl rfl rfl ?_ ?_
      | refine end_o rfl rfl rfl rfl ?_ ?_
      | refine end_of rfl rfl rfl ?_ ?_)
    | refine rsOne ?_
    | refine msPd rfl ?_
    | refine msPn ?_
    | refine msPo rfl ?_
    | refine And.intro ?_ ?_
    | (show List.length _ ≠ 1; simp)
    | (show (_ : Int) ≤ _; first | omega | (simp [IntKind.bits, dflt]; done) | (simp [IntKind.bits, dflt]; omega) | (simp at *; omega))
    | (show (_ : Int) < _; first | omega | (simp [IntKind.bits, dflt]; done) | (simp [IntKind.bits, dflt]; omega) | (simp at *; omega))
    | (show (_ : Nat) ≤ _; first | omega | (unfold maxLen; omega) | (simp [IntKind.bits, dflt]; done) | (simp [IntKind.bits, dflt]; omega) | (simp at *; omega))
    | rfl)
  · show 1 + B.length ≤ maxLen
    unfold maxLen; omega
  · simp only [List.length_append, List.length_cons, List.length_nil, maxLen]; omega
  · simp only [List.length_append, List.length_cons, List.length_nil, maxLen]; omega
  · rw [hall]
    clear hall h1 h2 h3 h4
    repeat' (first
      | exact trivial
      | (refine inWO ?_; first
        | refine WO_runE (nw := true) rfl rfl ?_ ?_
        | refine WO_runG (nw := true) rfl rfl rfl rfl rfl ?_ ?_
        | refine WO_runU (nw := true) rfl rfl rfl rfl rfl ?_ ?_
        | refine WO_run1 (nw := true) rfl rfl ?_ ?_
        | refine WO_cons rfl ?_
        | refine WO_gT rfl rfl rfl rfl rfl ?_
        | (refine WO_split rfl rfl rfl rfl ?_ ?_ <;> intro hq <;> try (exfalso; (simp_all) <;> omega))
        | refine WO_nil ?_)
      | (refine inRW ?_; first
        | refine RW_runE (nw := true) rfl rfl (fun _ _ => rfl) rfl ?_ ?_
        | refine RW_runG (nw := true) rfl rfl rfl rfl rfl (fun _ _ => rfl) rfl ?_ ?_
        | refine RW_runU (nw := true) rfl rfl rfl rfl rfl (fun _ _ => rfl) rfl ?_ ?_
        | refine RW_op (us := ?_) (ub := ?_) (fp := ?_) rfl (fun s0 b0 => ?_) ?_ ?_
        | refine RW_opT (us := ?_) (ub := ?_) (fp := ?_) rfl rfl rfl rfl (fun s0 b0 => ?_) ?_ ?_
        | (refine RW_split rfl rfl rfl ?_ ?_ <;> intro hq <;> try (exfalso; (simp_all) <;> omega))
        | refine RW_nil ?_ (by first | decide +kernel | kernel_rfl))
      | (refine gate 1 rfl ?_; first
        | refine callD true (h5) rfl rfl rfl rfl (by (repeat' (first | exact trivial | refine And.intro ?_ ?_ | rfl)); done) rfl rfl ?_
        | refine callD true (h6) rfl rfl rfl rfl (by (repeat' (first | exact trivial | refine And.intro ?_ ?_ | rfl)); done) rfl rfl ?_
        | refine callD true (h7) rfl rfl rfl rfl ⟨⟨rfl, rfl, rfl, trivial⟩, ⟨rfl, rfl, rfl, trivial⟩, trivial⟩ rfl rfl ?_
        | refine callD true (h8) rfl rfl rfl rfl ⟨rfl, rfl, trivial⟩ rfl rfl ?_
        | refine callD true (h9) rfl rfl rfl rfl ⟨rfl, rfl, trivial⟩ rfl rfl ?_)
      | (refine gate 5 rfl ?_; first
        | refine litR rfl rfl rfl rfl rfl rfl rfl rfl ?_
        | refine litW rfl rfl rfl rfl rfl rfl ?_)
      | (refine gate 2 rfl ?_; first
        | refine apOS rfl rfl rfl rfl rfl rfl rfl rfl rfl rfl rfl ?_ ?_ ?_
        | refine apOL rfl rfl rfl rfl rfl rfl rfl rfl rfl rfl rfl rfl ?_ ?_ ?_
        | refine apNS rfl rfl rfl rfl rfl rfl rfl rfl rfl rfl rfl ?_ ?_ ?_
        | refine apNL rfl rfl rfl rfl rfl rfl rfl rfl rfl rfl rfl rfl ?_ ?_ ?_
        | refine apDO rfl rfl rfl rfl rfl rfl rfl rfl rfl rfl rfl rfl rfl rfl ?_ ?_ ?_
        | refine apDN rfl rfl rfl rfl rfl rfl rfl rfl rfl rfl rfl rfl rfl rfl ?_ ?_ ?_
        | refine op_apMk _ rfl rfl rfl rfl rfl rfl rfl rfl rfl rfl rfl rfl rfl ?_ ?_ ?_ ?_
        | refine apDS rfl rfl rfl rfl rfl rfl rfl rfl rfl rfl rfl ?_ ?_ ?_)
      | (refine gate 6 rfl ?_; refine mkS rfl rfl rfl rfl rfl rfl rfl rfl rfl rfl rfl rfl rfl ?_ ?_ ?_ ?_)
      | (refine gate 6 rfl ?_; refine op_makeD _ rfl rfl rfl rfl rfl rfl rfl rfl rfl rfl rfl rfl rfl ?_ ?_ ?_ ?_)
      | (refine gate 0 rfl ?_; refine op_storeD rfl rfl rfl rfl rfl rfl rfl rfl rfl rfl ?_)
      | (refine gate 3 rfl ?_; refine op_capN rfl rfl rfl rfl rfl ?_)
      | (refine gate 3 rfl ?_; refine op_copy rfl rfl rfl rfl rfl rfl rfl rfl rfl rfl rfl ?_)
      | (refine gate 8 rfl ?_; refine op_mkFn rfl rfl rfl rfl ?_)
      | (refine gate 7 rfl ?_; refine op_nil rfl rfl rfl rfl rfl rfl (fun b hb => ?_))
      | (refine inW ?_; first
        | refine W_seq ?_
        | refine W_region ?_
        | refine W_drawN (by decide +kernel) ?_
        | refine W_block ?_
        | refine W_skip ?_
        | refine W_exit ?_
        | refine W_ret ?_
        | refine W_condT rfl rfl ?_
        | refine W_condF rfl rfl ?_
        | (refine W_condB rfl ?_ ?_ <;> intro hq <;> try (exfalso; (simp_all) <;> omega)))
      | (refine inE ?_; first
        | refine end_d rfl rfl rfl rfl ?_ ?_
        | refine end_o rfl rfl rfl rfl ?_ ?_
        | refine end_of rfl rfl rfl ?_ ?_)
      | refine rsOne ?_
      | refine msPd rfl ?_
      | refine msPn ?_
      | refine msPo rfl ?_
      | refine And.intro ?_ ?_
      | (show List.length _ ≠ 1; simp)
      | (show (_ : Int) ≤ _; first | omega | (simp [IntKind.bits, dflt]; done) | (simp [IntKind.bits, dflt]; omega) | (simp at *; omega))
      | (show (_ : Int) < _; first | omega | (simp [IntKind.bits, dflt]; done) | (simp [IntKind.bits, dflt]; omega) | (simp at *; omega))
      | (show (_ : Nat) ≤ _; first | omega | (unfold maxLen; omega) | (simp [IntKind.bits, dflt]; done) | (simp [IntKind.bits, dflt]; omega) | (simp at *; omega))
      | rfl)
end Go.LX

set_option linter.unusedVariables false
set_option linter.unusedSimpArgs false
namespace Go.LX
open Go.Proofs
attribute [local irreducible] W WO OpW RW EndQ
theorem lawSS_ok (code : List UInt8) (hw : WfT (.sl .u8) code) : FnC Try.prog 6 [aBy code] [aX] (.one (sB true)) := by
  by_cases hl : code.length ≤ 1048576
  · obtain ⟨e, _, hd⟩ := draweby_ex code (by omega)
    obtain ⟨r, ⟨h1, h2, _, _⟩, hd2⟩ := drawsby_ex code (by omega)
    cases h0 : smE e with
    | false => exact lawSS_one code e r.1 r.2 hl h1 h2 hd hd2 h0
    | true =>
      cases h : (allS r.1 && allS r.2) with
      | false => exact lawSS_two code e r.1 r.2 hl h1 h2 hd hd2 h0 h
      | true => exact lawSS_all code e r.1 r.2 hl h1 h2 hd hd2 h0 h
  · exact lawSS_big code (by omega)
end Go.LX

