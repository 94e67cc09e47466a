/- A part of the proof of the statement in the row text. -/
import Derived.Test.YtojaiockbpcilaaLyG6
import Derived.Test.YtojaiockbpcilaaLyI1
set_option linter.unusedVariables false
set_option linter.unusedSimpArgs false
namespace Go.LX
open Go.Proofs
attribute [local irreducible] W WO OpW RW EndQ
theorem mvL_get {xs : List Ed} {b : Ed} {i : Nat} (h : i < xs.length) : (mvL (xs.take i) b ++ xs.drop i).getD i (dflt TEd) = xs.getD i (dflt TEd) := by
  have hl : (mvL (xs.take i) b).length = i := by rw [mvL_len, List.length_take]; omega
  simp [List.getElem?_append, hl]
theorem mvL_set {xs : List Ed} {b : Ed} {i : Nat} (h : i < xs.length) : (mvL (xs.take i) b ++ xs.drop i).set i (mvE (xs.getD i (dflt TEd)) b) = mvL (xs.take (i + 1)) b ++ xs.drop (i + 1) := by
  have hl : (mvL (xs.take i) b).length = i := by rw [mvL_len, List.length_take]; omega
  rw [List.set_append_right _ _ (by omega), hl, Nat.sub_self, List.drop_eq_getElem_cons h, List.set_cons_zero, mvL_take h]
  simp
abbrev oEf (xs : List Ed) : S0 := .own 28 TEd false xs
set_option maxHeartbeats 4000000 in
set_option maxRecDepth 20000 in
theorem imvd_ok (xs ys : List Ed) (b : Ed) (hx : allS xs = true) (hy : allS ys = true) (hb : smE b = true) : FnC Try.prog 67 [aSt xs ys, aEd b] [aSt0, aEd0] (.ag [oEf (mvL xs b), oEf (mvL ys b)]) := by
  have hxa := allS_all hx
  have hya := allS_all hy
  have hx6 := allS_len hx
  have hy6 := allS_len hy
  have hw : ∀ z ∈ xs, z.2.2.length ≤ 16777216 := fun z hz => Nat.le_trans (smE_ok (List.all_eq_true.1 hxa z hz)).2.2 (by decide)
  have hv : ∀ z ∈ ys, z.2.2.length ≤ 16777216 := fun z hz => Nat.le_trans (smE_ok (List.all_eq_true.1 hya z hz)).2.2 (by decide)
  refine FnC_of (fn := Try.f67) Try.func67 rfl rfl rfl ?_
  repeat' (first
    | exact trivial
    | (refine inWO ?_; first
      | refine WO_runE (nw := true) rfl rfl ?_ ?_
      | refine WO_runG (nw := true) rfl rfl rfl rfl rfl ?_ ?_
      | refine WO_runU (nw := true) rfl rfl rfl rfl rfl ?_ ?_
      | refine WO_run1 (nw := true) rfl rfl ?_ ?_
      | refine WO_cons rfl ?_
      | refine WO_gT rfl rfl rfl rfl rfl ?_
      | (refine WO_split rfl rfl rfl rfl ?_ ?_ <;> intro hq <;> try (exfalso; (simp_all) <;> omega))
      | refine WO_nil ?_)
    | (refine inRW ?_; first
      | refine RW_runE (nw := true) rfl rfl (fun _ _ => rfl) rfl ?_ ?_
      | refine RW_runG (nw := true) rfl rfl rfl rfl rfl (fun _ _ => rfl) rfl ?_ ?_
      | refine RW_runU (nw := true) rfl rfl rfl rfl rfl (fun _ _ => rfl) rfl ?_ ?_
      | refine RW_op (us := ?_) (ub := ?_) (fp := ?_) rfl (fun s0 b0 => ?_) ?_ ?_
      | refine RW_opT (us := ?_) (ub := ?_) (fp := ?_) rfl rfl rfl rfl (fun s0 b0 => ?_) ?_ ?_
      | (refine RW_split rfl rfl rfl ?_ ?_ <;> intro hq <;> try (exfalso; (simp_all) <;> omega))
      | refine RW_nil ?_ (by first | decide +kernel | kernel_rfl))
    | (refine gate 1 rfl ?_; first
      | refine callD false (icopied_ok xs ys (by omega) (by omega) hw hv) rfl rfl rfl rfl (by (repeat' (first | exact trivial | refine And.intro ?_ ?_ | rfl)); done) rfl rfl ?_)
    | (refine gate 5 rfl ?_; first
      | refine litR rfl rfl rfl rfl rfl rfl rfl rfl ?_
      | refine litW rfl rfl rfl rfl rfl rfl ?_)
    | (refine gate 2 rfl ?_; first
      | refine apOS rfl rfl rfl rfl rfl rfl rfl rfl rfl rfl rfl ?_ ?_ ?_
      | refine apOL rfl rfl rfl rfl rfl rfl rfl rfl rfl rfl rfl rfl ?_ ?_ ?_
      | refine apNS rfl rfl rfl rfl rfl rfl rfl rfl rfl rfl rfl ?_ ?_ ?_
      | refine apNL rfl rfl rfl rfl rfl rfl rfl rfl rfl rfl rfl rfl ?_ ?_ ?_
      | refine apDO rfl rfl rfl rfl rfl rfl rfl rfl rfl rfl rfl rfl rfl rfl ?_ ?_ ?_
      | refine apDN rfl rfl rfl rfl rfl rfl rfl rfl rfl rfl rfl rfl rfl rfl ?_ ?_ ?_
      | refine op_apMk _ rfl rfl rfl rfl rfl rfl rfl rfl rfl rfl rfl rfl rfl ?_ ?_ ?_ ?_
      | refine apDS rfl rfl rfl rfl rfl rfl rfl rfl rfl rfl rfl ?_ ?_ ?_)
    | (refine gate 6 rfl ?_; refine mkS rfl rfl rfl rfl rfl rfl rfl rfl rfl rfl rfl rfl rfl ?_ ?_ ?_ ?_)
    | (refine gate 6 rfl ?_; refine op_makeD _ rfl rfl rfl rfl rfl rfl rfl rfl rfl rfl rfl rfl rfl ?_ ?_ ?_ ?_)
    | (refine gate 0 rfl ?_; refine op_storeD rfl rfl rfl rfl rfl rfl rfl rfl rfl rfl ?_)
    | (refine gate 3 rfl ?_; refine op_capN rfl rfl rfl rfl rfl ?_)
    | (refine gate 3 rfl ?_; refine op_copy rfl rfl rfl rfl rfl rfl rfl rfl rfl rfl rfl ?_)
    | (refine gate 8 rfl ?_; refine op_mkFn rfl rfl rfl rfl ?_)
    | (refine gate 7 rfl ?_; refine op_nil rfl rfl rfl rfl rfl rfl (fun b hb => ?_))
    | (refine inW ?_; first
      | refine W_seq ?_
      | refine W_region ?_
      | refine W_drawN (by decide +kernel) ?_
      | refine W_block ?_
      | refine W_skip ?_
      | refine W_exit ?_
      | refine W_ret ?_
      | refine W_condT rfl rfl ?_
      | refine W_condF rfl rfl ?_
      | (refine W_condB rfl ?_ ?_ <;> intro hq <;> try (exfalso; (simp_all) <;> omega)))
    | (refine inE ?_; first
      | refine end_d rfl rfl rfl rfl ?_ ?_
      | refine end_o rfl rfl rfl rfl ?_ ?_
      | refine end_of rfl rfl rfl ?_ ?_)
    | refine rsOne ?_
    | refine msPd rfl ?_
    | refine msPn ?_
    | refine msPo rfl ?_
    | refine And.intro ?_ ?_
    | (show List.length _ ≠ 1; simp)
    | (show (_ : Int) ≤ _; first | omega | (simp [IntKind.bits, dflt]; done) | (simp [IntKind.bits, dflt]; omega) | (simp at *; omega))
    | (show (_ : Int) < _; first | omega | (simp [IntKind.bits, dflt]; done) | (simp [IntKind.bits, dflt]; omega) | (simp at *; omega))
    | (show (_ : Nat) ≤ _; first | omega | (unfold maxLen; omega) | (simp [IntKind.bits, dflt]; done) | (simp [IntKind.bits, dflt]; omega) | (simp at *; omega))
    | rfl)
  refine W.weak (Wk_shallow (o := 12000) rfl) ?_
  refine W.weak (Wk_shallow (o := 12001) rfl) ?_
  refine W_loopT (fun q : Nat × List Ed × List Ed => St.tmpl 38 [(3, .one (.rf 4000 (.pb 0))), (4, .one (.rf 5000 (.pb 0))), (5, .one (.rf 6000 (.pb 0))), (16, .one (.rf 17000 (.as 1 2 24))), (17, .one (.d (.i .i64) 2)), (18, .one (.d (.i .i64) (q.1 : Int)))] [(4000, .cells [.d (.i .i64) b.1, .d (.i .i64) b.2.1, .d (.sl .u8) b.2.2]), (5000, .cells [.nl, .nl]), (6000, .cells [.rf 12000 .ar, .rf 12001 .ar]), (12000, .rows 28 TEd false q.2.1), (12001, .rows 28 TEd false q.2.2), (17000, .cells [.rf 12000 .ar, .rf 12001 .ar])]) (fun q => q = (0, xs, ys) ∨ q = (1, mvL xs b, ys) ∨ q = (2, mvL xs b, mvL ys b)) (fun q => 2 - q.1) (0, xs, ys) (.inl rfl) ?_ ?_
  · exact Wk_tmpl [] ⟨rfl, rfl, rfl, rfl, rfl, rfl, trivial⟩ ⟨rfl, rfl, rfl, rfl, rfl, rfl, trivial⟩ rfl rfl
  · rintro q (rfl | rfl | rfl)
    · skip
      repeat' (first
        | exact trivial
        | (refine inWO ?_; first
          | refine WO_runE (nw := true) rfl rfl ?_ ?_
          | refine WO_runG (nw := true) rfl rfl rfl rfl rfl ?_ ?_
          | refine WO_runU (nw := true) rfl rfl rfl rfl rfl ?_ ?_
          | refine WO_run1 (nw := true) rfl rfl ?_ ?_
          | refine WO_cons rfl ?_
          | refine WO_gT rfl rfl rfl rfl rfl ?_
          | (refine WO_split rfl rfl rfl rfl ?_ ?_ <;> intro hq <;> try (exfalso; (simp_all) <;> omega))
          | refine WO_nil ?_)
        | (refine inRW ?_; first
          | refine RW_runE (nw := true) rfl rfl (fun _ _ => rfl) rfl ?_ ?_
          | refine RW_runG (nw := true) rfl rfl rfl rfl rfl (fun _ _ => rfl) rfl ?_ ?_
          | refine RW_runU (nw := true) rfl rfl rfl rfl rfl (fun _ _ => rfl) rfl ?_ ?_
          | refine RW_op (us := ?_) (ub := ?_) (fp := ?_) rfl (fun s0 b0 => ?_) ?_ ?_
          | refine RW_opT (us := ?_) (ub := ?_) (fp := ?_) rfl rfl rfl rfl (fun s0 b0 => ?_) ?_ ?_
          | (refine RW_split rfl rfl rfl ?_ ?_ <;> intro hq <;> try (exfalso; (simp_all) <;> omega))
          | refine RW_nil ?_ (by first | decide +kernel | kernel_rfl))
        | (refine gate 5 rfl ?_; first
          | refine litR rfl rfl rfl rfl rfl rfl rfl rfl ?_
          | refine litW rfl rfl rfl rfl rfl rfl ?_)
        | (refine gate 2 rfl ?_; first
          | refine apOS rfl rfl rfl rfl rfl rfl rfl rfl rfl rfl rfl ?_ ?_ ?_
          | refine apOL rfl rfl rfl rfl rfl rfl rfl rfl rfl rfl rfl rfl ?_ ?_ ?_
          | refine apNS rfl rfl rfl rfl rfl rfl rfl rfl rfl rfl rfl ?_ ?_ ?_
          | refine apNL rfl rfl rfl rfl rfl rfl rfl rfl rfl rfl rfl rfl ?_ ?_ ?_
          | refine apDO rfl rfl rfl rfl rfl rfl rfl rfl rfl rfl rfl rfl rfl rfl ?_ ?_ ?_
          | refine apDN rfl rfl rfl rfl rfl rfl rfl rfl rfl rfl rfl rfl rfl rfl ?_ ?_ ?_
          | refine op_apMk _ rfl rfl rfl rfl rfl rfl rfl rfl rfl rfl rfl rfl rfl ?_ ?_ ?_ ?_
          | refine apDS rfl rfl rfl rfl rfl rfl rfl rfl rfl rfl rfl ?_ ?_ ?_)
        | (refine gate 6 rfl ?_; refine mkS rfl rfl rfl rfl rfl rfl rfl rfl rfl rfl rfl rfl rfl ?_ ?_ ?_ ?_)
        | (refine gate 6 rfl ?_; refine op_makeD _ rfl rfl rfl rfl rfl rfl rfl rfl rfl rfl rfl rfl rfl ?_ ?_ ?_ ?_)
        | (refine gate 0 rfl ?_; refine op_storeD rfl rfl rfl rfl rfl rfl rfl rfl rfl rfl ?_)
        | (refine gate 3 rfl ?_; refine op_capN rfl rfl rfl rfl rfl ?_)
        | (refine gate 3 rfl ?_; refine op_copy rfl rfl rfl rfl rfl rfl rfl rfl rfl rfl rfl ?_)
        | (refine gate 8 rfl ?_; refine op_mkFn rfl rfl rfl rfl ?_)
        | (refine gate 7 rfl ?_; refine op_nil rfl rfl rfl rfl rfl rfl (fun b hb => ?_))
        | (refine inW ?_; first
          | refine W_seq ?_
          | refine W_region ?_
          | refine W_drawN (by decide +kernel) ?_
          | refine W_block ?_
          | refine W_skip ?_
          | refine W_exit ?_
          | refine W_ret ?_
          | refine W_condT rfl rfl ?_
          | refine W_condF rfl rfl ?_
          | (refine W_condB rfl ?_ ?_ <;> intro hq <;> try (exfalso; (simp_all) <;> omega)))
        | (refine inE ?_; first
          | refine end_d rfl rfl rfl rfl ?_ ?_
          | refine end_o rfl rfl rfl rfl ?_ ?_
          | refine end_of rfl rfl rfl ?_ ?_)
        | refine rsOne ?_
        | refine msPd rfl ?_
        | refine msPn ?_
        | refine msPo rfl ?_
        | refine And.intro ?_ ?_
        | (show List.length _ ≠ 1; simp)
        | (show (_ : Int) ≤ _; first | omega | (simp [IntKind.bits, dflt]; done) | (simp [IntKind.bits, dflt]; omega) | (simp at *; omega))
        | (show (_ : Int) < _; first | omega | (simp [IntKind.bits, dflt]; done) | (simp [IntKind.bits, dflt]; omega) | (simp at *; omega))
        | (show (_ : Nat) ≤ _; first | omega | (unfold maxLen; omega) | (simp [IntKind.bits, dflt]; done) | (simp [IntKind.bits, dflt]; omega) | (simp at *; omega))
        | rfl)
      refine W_loopT (fun i : Nat => St.tmpl 38 [(3, .one (.rf 4000 (.pb 0))), (4, .one (.rf 5000 (.pb 0))), (5, .one (.rf 6000 (.pb 0))), (7, .one (.rf 12000 .ar)), (16, .one (.rf 17000 (.as 1 2 24))), (17, .one (.d (.i .i64) 2)), (18, .one (.d (.i .i64) 0)), (22, .one (.rf 12000 .ar)), (23, .one (.d (.i .i64) (xs.length : Nat))), (24, .one (.d (.i .i64) (i : Int)))] [(4000, .cells [.d (.i .i64) b.1, .d (.i .i64) b.2.1, .d (.sl .u8) b.2.2]), (5000, .cells [.nl, .nl]), (6000, .cells [.rf 12000 .ar, .rf 12001 .ar]), (12000, .rows 28 TEd false (mvL (xs.take i) b ++ xs.drop i)), (12001, .rows 28 TEd false ys), (17000, .cells [.rf 12000 .ar, .rf 12001 .ar])]) (fun i => i ≤ xs.length) (fun i => xs.length - i) 0 (Nat.zero_le _) ?_ ?_
      · exact Wk_tmpl [] ⟨rfl, rfl, rfl, rfl, rfl, rfl, rfl, rfl, rfl, rfl, trivial⟩ ⟨rfl, rfl, rfl, rfl, rfl, rfl, trivial⟩ rfl rfl
      · intro i hi
        have hlen : (mvL (xs.take i) b ++ xs.drop i).length = xs.length := by rw [List.length_append, mvL_len, List.length_take, List.length_drop]; omega
        have hsm := fun h : i < xs.length => all_get hxa h
        repeat' (first
          | exact trivial
          | (refine inWO ?_; first
            | refine WO_runE (nw := true) rfl rfl ?_ ?_
            | refine WO_runG (nw := true) rfl rfl rfl rfl rfl ?_ ?_
            | refine WO_runU (nw := true) rfl rfl rfl rfl rfl ?_ ?_
            | refine WO_run1 (nw := true) rfl rfl ?_ ?_
            | refine WO_cons rfl ?_
            | refine WO_gT rfl rfl rfl rfl rfl ?_
            | (refine WO_split rfl rfl rfl rfl ?_ ?_ <;> intro hq <;> try (exfalso; (simp_all) <;> omega))
            | refine WO_nil ?_)
          | (refine inRW ?_; first
            | refine RW_runE (nw := true) rfl rfl (fun _ _ => rfl) rfl ?_ ?_
            | refine RW_runG (nw := true) rfl rfl rfl rfl rfl (fun _ _ => rfl) rfl ?_ ?_
            | refine RW_runU (nw := true) rfl rfl rfl rfl rfl (fun _ _ => rfl) rfl ?_ ?_
            | refine RW_op (us := ?_) (ub := ?_) (fp := ?_) rfl (fun s0 b0 => ?_) ?_ ?_
            | refine RW_opT (us := ?_) (ub := ?_) (fp := ?_) rfl rfl rfl rfl (fun s0 b0 => ?_) ?_ ?_
            | (refine RW_split rfl rfl rfl ?_ ?_ <;> intro hq <;> try (exfalso; (simp_all) <;> omega))
            | refine RW_nil ?_ (by first | decide +kernel | kernel_rfl))
          | (refine gate 1 rfl ?_; first
            | refine callD false (moved_ok _ b ?_ hb) rfl rfl rfl rfl (by (repeat' (first | exact trivial | refine And.intro ?_ ?_ | rfl)); done) rfl rfl ?_)
          | (refine gate 5 rfl ?_; first
            | refine litR rfl rfl rfl rfl rfl rfl rfl rfl ?_
            | refine litW rfl rfl rfl rfl rfl rfl ?_)
          | (refine gate 2 rfl ?_; first
            | refine apOS rfl rfl rfl rfl rfl rfl rfl rfl rfl rfl rfl ?_ ?_ ?_
            | refine apOL rfl rfl rfl rfl rfl rfl rfl rfl rfl rfl rfl rfl ?_ ?_ ?_
            | refine apNS rfl rfl rfl rfl rfl rfl rfl rfl rfl rfl rfl ?_ ?_ ?_
            | refine apNL rfl rfl rfl rfl rfl rfl rfl rfl rfl rfl rfl rfl ?_ ?_ ?_
            | refine apDO rfl rfl rfl rfl rfl rfl rfl rfl rfl rfl rfl rfl rfl rfl ?_ ?_ ?_
            | refine apDN rfl rfl rfl rfl rfl rfl rfl rfl rfl rfl rfl rfl rfl rfl ?_ ?_ ?_
            | refine op_apMk _ rfl rfl rfl rfl rfl rfl rfl rfl rfl rfl rfl rfl rfl ?_ ?_ ?_ ?_
            | refine apDS rfl rfl rfl rfl rfl rfl rfl rfl rfl rfl rfl ?_ ?_ ?_)
          | (refine gate 6 rfl ?_; refine mkS rfl rfl rfl rfl rfl rfl rfl rfl rfl rfl rfl rfl rfl ?_ ?_ ?_ ?_)
          | (refine gate 6 rfl ?_; refine op_makeD _ rfl rfl rfl rfl rfl rfl rfl rfl rfl rfl rfl rfl rfl ?_ ?_ ?_ ?_)
          | (refine gate 0 rfl ?_; refine op_storeD rfl rfl rfl rfl rfl rfl rfl rfl rfl rfl ?_)
          | (refine gate 3 rfl ?_; refine op_capN rfl rfl rfl rfl rfl ?_)
          | (refine gate 3 rfl ?_; refine op_copy rfl rfl rfl rfl rfl rfl rfl rfl rfl rfl rfl ?_)
          | (refine gate 8 rfl ?_; refine op_mkFn rfl rfl rfl rfl ?_)
          | (refine gate 7 rfl ?_; refine op_nil rfl rfl rfl rfl rfl rfl (fun b hb => ?_))
          | (refine inW ?_; first
            | refine W_seq ?_
            | refine W_region ?_
            | refine W_drawN (by decide +kernel) ?_
            | refine W_block ?_
            | refine W_skip ?_
            | refine W_exit ?_
            | refine W_ret ?_
            | refine W_condT rfl rfl ?_
            | refine W_condF rfl rfl ?_
            | (refine W_condB rfl ?_ ?_ <;> intro hq <;> try (exfalso; (simp_all) <;> omega)))
          | (refine inE ?_; first
            | refine end_d rfl rfl rfl rfl ?_ ?_
            | refine end_o rfl rfl rfl rfl ?_ ?_
            | refine end_of rfl rfl rfl ?_ ?_)
          | refine rsOne ?_
          | refine msPd rfl ?_
          | refine msPn ?_
          | refine msPo rfl ?_
          | refine And.intro ?_ ?_
          | (show List.length _ ≠ 1; simp)
          | (show (_ : Int) ≤ _; first | omega | (simp [IntKind.bits, dflt]; done) | (simp [IntKind.bits, dflt]; omega) | (simp at *; omega))
          | (show (_ : Int) < _; first | omega | (simp [IntKind.bits, dflt]; done) | (simp [IntKind.bits, dflt]; omega) | (simp at *; omega))
          | (show (_ : Nat) ≤ _; first | omega | (unfold maxLen; omega) | (simp [IntKind.bits, dflt]; done) | (simp [IntKind.bits, dflt]; omega) | (simp at *; omega))
          | rfl)
        · have hlt : i < xs.length := by simpa using hq
          show smE (List.getD (mvL (xs.take i) b ++ xs.drop i) i (dflt TEd)) = true
          rw [mvL_get hlt]; exact hsm hlt
        · have hlt : i < xs.length := by simpa using hq
          refine ⟨i + 1, by omega, by omega, Wk_tmpl [] ⟨rfl, rfl, rfl, rfl, rfl, rfl, rfl, rfl, rfl, rfl, trivial⟩ ⟨rfl, rfl, rfl, ?_, rfl, rfl, trivial⟩ rfl rfl⟩
          refine congrArg (fun r => some (Ob.rows 28 TEd false r)) ?_
          show List.set (mvL (xs.take i) b ++ xs.drop i) i (mvE (List.getD (mvL (xs.take i) b ++ xs.drop i) i (dflt TEd)) b) = _
          rw [mvL_get hlt]
          exact mvL_set hlt
        · have e : i = xs.length := by simp at hq; omega
          refine ⟨(1, mvL xs b, ys), by simp only; omega, .inr (.inl rfl), Wk_tmpl [] ⟨rfl, rfl, rfl, rfl, rfl, rfl, trivial⟩ ⟨rfl, rfl, rfl, ?_, rfl, rfl, trivial⟩ rfl rfl⟩
          refine congrArg (fun r => some (Ob.rows 28 TEd false r)) ?_
          rw [e, List.take_length, List.drop_length, List.append_nil]
    · skip
      repeat' (first
        | exact trivial
        | (refine inWO ?_; first
          | refine WO_runE (nw := true) rfl rfl ?_ ?_
          | refine WO_runG (nw := true) rfl rfl rfl rfl rfl ?_ ?_
          | refine WO_runU (nw := true) rfl rfl rfl rfl rfl ?_ ?_
          | refine WO_run1 (nw := true) rfl rfl ?_ ?_
          | refine WO_cons rfl ?_
          | refine WO_gT rfl rfl rfl rfl rfl ?_
          | (refine WO_split rfl rfl rfl rfl ?_ ?_ <;> intro hq <;> try (exfalso; (simp_all) <;> omega))
          | refine WO_nil ?_)
        | (refine inRW ?_; first
          | refine RW_runE (nw := true) rfl rfl (fun _ _ => rfl) rfl ?_ ?_
          | refine RW_runG (nw := true) rfl rfl rfl rfl rfl (fun _ _ => rfl) rfl ?_ ?_
          | refine RW_runU (nw := true) rfl rfl rfl rfl rfl (fun _ _ => rfl) rfl ?_ ?_
          | refine RW_op (us := ?_) (ub := ?_) (fp := ?_) rfl (fun s0 b0 => ?_) ?_ ?_
          | refine RW_opT (us := ?_) (ub := ?_) (fp := ?_) rfl rfl rfl rfl (fun s0 b0 => ?_) ?_ ?_
          | (refine RW_split rfl rfl rfl ?_ ?_ <;> intro hq <;> try (exfalso; (simp_all) <;> omega))
          | refine RW_nil ?_ (by first | decide +kernel | kernel_rfl))
        | (refine gate 5 rfl ?_; first
          | refine litR rfl rfl rfl rfl rfl rfl rfl rfl ?_
          | refine litW rfl rfl rfl rfl rfl rfl ?_)
        | (refine gate 2 rfl ?_; first
          | refine apOS rfl rfl rfl rfl rfl rfl rfl rfl rfl rfl rfl ?_ ?_ ?_
          | refine apOL rfl rfl rfl rfl rfl rfl rfl rfl rfl rfl rfl rfl ?_ ?_ ?_
          | refine apNS rfl rfl rfl rfl rfl rfl rfl rfl rfl rfl rfl ?_ ?_ ?_
          | refine apNL rfl rfl rfl rfl rfl rfl rfl rfl rfl rfl rfl rfl ?_ ?_ ?_
          | refine apDO rfl rfl rfl rfl rfl rfl rfl rfl rfl rfl rfl rfl rfl rfl ?_ ?_ ?_
          | refine apDN rfl rfl rfl rfl rfl rfl rfl rfl rfl rfl rfl rfl rfl rfl ?_ ?_ ?_
          | refine op_apMk _ rfl rfl rfl rfl rfl rfl rfl rfl rfl rfl rfl rfl rfl ?_ ?_ ?_ ?_
          | refine apDS rfl rfl rfl rfl rfl rfl rfl rfl rfl rfl rfl ?_ ?_ ?_)
        | (refine gate 6 rfl ?_; refine mkS rfl rfl rfl rfl rfl rfl rfl rfl rfl rfl rfl rfl rfl ?_ ?_ ?_ ?_)
        | (refine gate 6 rfl ?_; refine op_makeD _ rfl rfl rfl rfl rfl rfl rfl rfl rfl rfl rfl rfl rfl ?_ ?_ ?_ ?_)
        | (refine gate 0 rfl ?_; refine op_storeD rfl rfl rfl rfl rfl rfl rfl rfl rfl rfl ?_)
        | (refine gate 3 rfl ?_; refine op_capN rfl rfl rfl rfl rfl ?_)
        | (refine gate 3 rfl ?_; refine op_copy rfl rfl rfl rfl rfl rfl rfl rfl rfl rfl rfl ?_)
        | (refine gate 8 rfl ?_; refine op_mkFn rfl rfl rfl rfl ?_)
        | (refine gate 7 rfl ?_; refine op_nil rfl rfl rfl rfl rfl rfl (fun b hb => ?_))
        | (refine inW ?_; first
          | refine W_seq ?_
          | refine W_region ?_
          | refine W_drawN (by decide +kernel) ?_
          | refine W_block ?_
          | refine W_skip ?_
          | refine W_exit ?_
          | refine W_ret ?_
          | refine W_condT rfl rfl ?_
          | refine W_condF rfl rfl ?_
          | (refine W_condB rfl ?_ ?_ <;> intro hq <;> try (exfalso; (simp_all) <;> omega)))
        | (refine inE ?_; first
          | refine end_d rfl rfl rfl rfl ?_ ?_
          | refine end_o rfl rfl rfl rfl ?_ ?_
          | refine end_of rfl rfl rfl ?_ ?_)
        | refine rsOne ?_
        | refine msPd rfl ?_
        | refine msPn ?_
        | refine msPo rfl ?_
        | refine And.intro ?_ ?_
        | (show List.length _ ≠ 1; simp)
        | (show (_ : Int) ≤ _; first | omega | (simp [IntKind.bits, dflt]; done) | (simp [IntKind.bits, dflt]; omega) | (simp at *; omega))
        | (show (_ : Int) < _; first | omega | (simp [IntKind.bits, dflt]; done) | (simp [IntKind.bits, dflt]; omega) | (simp at *; omega))
        | (show (_ : Nat) ≤ _; first | omega | (unfold maxLen; omega) | (simp [IntKind.bits, dflt]; done) | (simp [IntKind.bits, dflt]; omega) | (simp at *; omega))
        | rfl)
      refine W_loopT (fun i : Nat => St.tmpl 38 [(3, .one (.rf 4000 (.pb 0))), (4, .one (.rf 5000 (.pb 0))), (5, .one (.rf 6000 (.pb 0))), (7, .one (.rf 12001 .ar)), (16, .one (.rf 17000 (.as 1 2 24))), (17, .one (.d (.i .i64) 2)), (18, .one (.d (.i .i64) 1)), (22, .one (.rf 12001 .ar)), (23, .one (.d (.i .i64) (ys.length : Nat))), (24, .one (.d (.i .i64) (i : Int)))] [(4000, .cells [.d (.i .i64) b.1, .d (.i .i64) b.2.1, .d (.sl .u8) b.2.2]), (5000, .cells [.nl, .nl]), (6000, .cells [.rf 12000 .ar, .rf 12001 .ar]), (12000, .rows 28 TEd false ((mvL xs b))), (12001, .rows 28 TEd false (mvL (ys.take i) b ++ ys.drop i)), (17000, .cells [.rf 12000 .ar, .rf 12001 .ar])]) (fun i => i ≤ ys.length) (fun i => ys.length - i) 0 (Nat.zero_le _) ?_ ?_
      · exact Wk_tmpl [] ⟨rfl, rfl, rfl, rfl, rfl, rfl, rfl, rfl, rfl, rfl, trivial⟩ ⟨rfl, rfl, rfl, rfl, rfl, rfl, trivial⟩ rfl rfl
      · intro i hi
        have hlen : (mvL (ys.take i) b ++ ys.drop i).length = ys.length := by rw [List.length_append, mvL_len, List.length_take, List.length_drop]; omega
        have hsm := fun h : i < ys.length => all_get hya h
        repeat' (first
          | exact trivial
          | (refine inWO ?_; first
            | refine WO_runE (nw := true) rfl rfl ?_ ?_
            | refine WO_runG (nw := true) rfl rfl rfl rfl rfl ?_ ?_
            | refine WO_runU (nw := true) rfl rfl rfl rfl rfl ?_ ?_
            | refine WO_run1 (nw := true) rfl rfl ?_ ?_
            | refine WO_cons rfl ?_
            | refine WO_gT rfl rfl rfl rfl rfl ?_
            | (refine WO_split rfl rfl rfl rfl ?_ ?_ <;> intro hq <;> try (exfalso; (simp_all) <;> omega))
            | refine WO_nil ?_)
          | (refine inRW ?_; first
            | refine RW_runE (nw := true) rfl rfl (fun _ _ => rfl) rfl ?_ ?_
            | refine RW_runG (nw := true) rfl rfl rfl rfl rfl (fun _ _ => rfl) rfl ?_ ?_
            | refine RW_runU (nw := true) rfl rfl rfl rfl rfl (fun _ _ => rfl) rfl ?_ ?_
            | refine RW_op (us := ?_) (ub := ?_) (fp := ?_) rfl (fun s0 b0 => ?_) ?_ ?_
            | refine RW_opT (us := ?_) (ub := ?_) (fp := ?_) rfl rfl rfl rfl (fun s0 b0 => ?_) ?_ ?_
            | (refine RW_split rfl rfl rfl ?_ ?_ <;> intro hq <;> try (exfalso; (simp_all) <;> omega))
            | refine RW_nil ?_ (by first | decide +kernel | kernel_rfl))
          | (refine gate 1 rfl ?_; first
            | refine callD false (moved_ok _ b ?_ hb) rfl rfl rfl rfl (by (repeat' (first | exact trivial | refine And.intro ?_ ?_ | rfl)); done) rfl rfl ?_)
          | (refine gate 5 rfl ?_; first
            | refine litR rfl rfl rfl rfl rfl rfl rfl rfl ?_
            | refine litW rfl rfl rfl rfl rfl rfl ?_)
          | (refine gate 2 rfl ?_; first
            | refine apOS rfl rfl rfl rfl rfl rfl rfl rfl rfl rfl rfl ?_ ?_ ?_
            | refine apOL rfl rfl rfl rfl rfl rfl rfl rfl rfl rfl rfl rfl ?_ ?_ ?_
            | refine apNS rfl rfl rfl rfl rfl rfl rfl rfl rfl rfl rfl ?_ ?_ ?_
            | refine apNL rfl rfl rfl rfl rfl rfl rfl rfl rfl rfl rfl rfl ?_ ?_ ?_
            | refine apDO rfl rfl rfl rfl rfl rfl rfl rfl rfl rfl rfl rfl rfl rfl ?_ ?_ ?_
            | refine apDN rfl rfl rfl rfl rfl rfl rfl rfl rfl rfl rfl rfl rfl rfl ?_ ?_ ?_
            | refine op_apMk _ rfl rfl rfl rfl rfl rfl rfl rfl rfl rfl rfl rfl rfl ?_ ?_ ?_ ?_
            | refine apDS rfl rfl rfl rfl rfl rfl rfl rfl rfl rfl rfl ?_ ?_ ?_)
          | (refine gate 6 rfl ?_; refine mkS rfl rfl rfl rfl rfl rfl rfl rfl rfl rfl rfl rfl rfl ?_ ?_ ?_ ?_)
          | (refine gate 6 rfl ?_; refine op_makeD _ rfl rfl rfl rfl rfl rfl rfl rfl rfl rfl rfl rfl rfl ?_ ?_ ?_ ?_)
          | (refine gate 0 rfl ?_; refine op_storeD rfl rfl rfl rfl rfl rfl rfl rfl rfl rfl ?_)
          | (refine gate 3 rfl ?_; refine op_capN rfl rfl rfl rfl rfl ?_)
          | (refine gate 3 rfl ?_; refine op_copy rfl rfl rfl rfl rfl rfl rfl rfl rfl rfl rfl ?_)
          | (refine gate 8 rfl ?_; refine op_mkFn rfl rfl rfl rfl ?_)
          | (refine gate 7 rfl ?_; refine op_nil rfl rfl rfl rfl rfl rfl (fun b hb => ?_))
          | (refine inW ?_; first
            | refine W_seq ?_
            | refine W_region ?_
            | refine W_drawN (by decide +kernel) ?_
            | refine W_block ?_
            | refine W_skip ?_
            | refine W_exit ?_
            | refine W_ret ?_
            | refine W_condT rfl rfl ?_
            | refine W_condF rfl rfl ?_
            | (refine W_condB rfl ?_ ?_ <;> intro hq <;> try (exfalso; (simp_all) <;> omega)))
          | (refine inE ?_; first
            | refine end_d rfl rfl rfl rfl ?_ ?_
            | refine end_o rfl rfl rfl rfl ?_ ?_
            | refine end_of rfl rfl rfl ?_ ?_)
          | refine rsOne ?_
          | refine msPd rfl ?_
          | refine msPn ?_
          | refine msPo rfl ?_
          | refine And.intro ?_ ?_
          | (show List.length _ ≠ 1; simp)
          | (show (_ : Int) ≤ _; first | omega | (simp [IntKind.bits, dflt]; done) | (simp [IntKind.bits, dflt]; omega) | (simp at *; omega))
          | (show (_ : Int) < _; first | omega | (simp [IntKind.bits, dflt]; done) | (simp [IntKind.bits, dflt]; omega) | (simp at *; omega))
          | (show (_ : Nat) ≤ _; first | omega | (unfold maxLen; omega) | (simp [IntKind.bits, dflt]; done) | (simp [IntKind.bits, dflt]; omega) | (simp at *; omega))
          | rfl)
        · have hlt : i < ys.length := by simpa using hq
          show smE (List.getD (mvL (ys.take i) b ++ ys.drop i) i (dflt TEd)) = true
          rw [mvL_get hlt]; exact hsm hlt
        · have hlt : i < ys.length := by simpa using hq
          refine ⟨i + 1, by omega, by omega, Wk_tmpl [] ⟨rfl, rfl, rfl, rfl, rfl, rfl, rfl, rfl, rfl, rfl, trivial⟩ ⟨rfl, rfl, rfl, rfl, ?_, rfl, trivial⟩ rfl rfl⟩
          refine congrArg (fun r => some (Ob.rows 28 TEd false r)) ?_
          show List.set (mvL (ys.take i) b ++ ys.drop i) i (mvE (List.getD (mvL (ys.take i) b ++ ys.drop i) i (dflt TEd)) b) = _
          rw [mvL_get hlt]
          exact mvL_set hlt
        · have e : i = ys.length := by simp at hq; omega
          refine ⟨(2, mvL xs b, mvL ys b), by simp only; omega, .inr (.inr rfl), Wk_tmpl [] ⟨rfl, rfl, rfl, rfl, rfl, rfl, trivial⟩ ⟨rfl, rfl, rfl, rfl, ?_, rfl, trivial⟩ rfl rfl⟩
          refine congrArg (fun r => some (Ob.rows 28 TEd false r)) ?_
          rw [e, List.take_length, List.drop_length, List.append_nil]
    · skip
      repeat' (first
        | exact trivial
        | (refine inWO ?_; first
          | refine WO_runE (nw := true) rfl rfl ?_ ?_
          | refine WO_runG (nw := true) rfl rfl rfl rfl rfl ?_ ?_
          | refine WO_runU (nw := true) rfl rfl rfl rfl rfl ?_ ?_
          | refine WO_run1 (nw := true) rfl rfl ?_ ?_
          | refine WO_cons rfl ?_
          | refine WO_gT rfl rfl rfl rfl rfl ?_
          | (refine WO_split rfl rfl rfl rfl ?_ ?_ <;> intro hq <;> try (exfalso; (simp_all) <;> omega))
          | refine WO_nil ?_)
        | (refine inRW ?_; first
          | refine RW_runE (nw := true) rfl rfl (fun _ _ => rfl) rfl ?_ ?_
          | refine RW_runG (nw := true) rfl rfl rfl rfl rfl (fun _ _ => rfl) rfl ?_ ?_
          | refine RW_runU (nw := true) rfl rfl rfl rfl rfl (fun _ _ => rfl) rfl ?_ ?_
          | refine RW_op (us := ?_) (ub := ?_) (fp := ?_) rfl (fun s0 b0 => ?_) ?_ ?_
          | refine RW_opT (us := ?_) (ub := ?_) (fp := ?_) rfl rfl rfl rfl (fun s0 b0 => ?_) ?_ ?_
          | (refine RW_split rfl rfl rfl ?_ ?_ <;> intro hq <;> try (exfalso; (simp_all) <;> omega))
          | refine RW_nil ?_ (by first | decide +kernel | kernel_rfl))
        | (refine gate 5 rfl ?_; first
          | refine litR rfl rfl rfl rfl rfl rfl rfl rfl ?_
          | refine litW rfl rfl rfl rfl rfl rfl ?_)
        | (refine gate 2 rfl ?_; first
          | refine apOS rfl rfl rfl rfl rfl rfl rfl rfl rfl rfl rfl ?_ ?_ ?_
          | refine apOL rfl rfl rfl rfl rfl rfl rfl rfl rfl rfl rfl rfl ?_ ?_ ?_
          | refine apNS rfl rfl rfl rfl rfl rfl rfl rfl rfl rfl rfl ?_ ?_ ?_
          | refine apNL rfl rfl rfl rfl rfl rfl rfl rfl rfl rfl rfl rfl ?_ ?_ ?_
          | refine apDO rfl rfl rfl rfl rfl rfl rfl rfl rfl rfl rfl rfl rfl rfl ?_ ?_ ?_
          | refine apDN rfl rfl rfl rfl rfl rfl rfl rfl rfl rfl rfl rfl rfl rfl ?_ ?_ ?_
          | refine op_apMk _ rfl rfl rfl rfl rfl rfl rfl rfl rfl rfl rfl rfl rfl ?_ ?_ ?_ ?_
          | refine apDS rfl rfl rfl rfl rfl rfl rfl rfl rfl rfl rfl ?_ ?_ ?_)
        | (refine gate 6 rfl ?_; refine mkS rfl rfl rfl rfl rfl rfl rfl rfl rfl rfl rfl rfl rfl ?_ ?_ ?_ ?_)
        | (refine gate 6 rfl ?_; refine op_makeD _ rfl rfl rfl rfl rfl rfl rfl rfl rfl rfl rfl rfl rfl ?_ ?_ ?_ ?_)
        | (refine gate 0 rfl ?_; refine op_storeD rfl rfl rfl rfl rfl rfl rfl rfl rfl rfl ?_)
        | (refine gate 3 rfl ?_; refine op_capN rfl rfl rfl rfl rfl ?_)
        | (refine gate 3 rfl ?_; refine op_copy rfl rfl rfl rfl rfl rfl rfl rfl rfl rfl rfl ?_)
        | (refine gate 8 rfl ?_; refine op_mkFn rfl rfl rfl rfl ?_)
        | (refine gate 7 rfl ?_; refine op_nil rfl rfl rfl rfl rfl rfl (fun b hb => ?_))
        | (refine inW ?_; first
          | refine W_seq ?_
          | refine W_region ?_
          | refine W_drawN (by decide +kernel) ?_
          | refine W_block ?_
          | refine W_skip ?_
          | refine W_exit ?_
          | refine W_ret ?_
          | refine W_condT rfl rfl ?_
          | refine W_condF rfl rfl ?_
          | (refine W_condB rfl ?_ ?_ <;> intro hq <;> try (exfalso; (simp_all) <;> omega)))
        | (refine inE ?_; first
          | refine end_d rfl rfl rfl rfl ?_ ?_
          | refine end_o rfl rfl rfl rfl ?_ ?_
          | refine end_of rfl rfl rfl ?_ ?_)
        | refine rsOne ?_
        | refine msPd rfl ?_
        | refine msPn ?_
        | refine msPo rfl ?_
        | refine And.intro ?_ ?_
        | (show List.length _ ≠ 1; simp)
        | (show (_ : Int) ≤ _; first | omega | (simp [IntKind.bits, dflt]; done) | (simp [IntKind.bits, dflt]; omega) | (simp at *; omega))
        | (show (_ : Int) < _; first | omega | (simp [IntKind.bits, dflt]; done) | (simp [IntKind.bits, dflt]; omega) | (simp at *; omega))
        | (show (_ : Nat) ≤ _; first | omega | (unfold maxLen; omega) | (simp [IntKind.bits, dflt]; done) | (simp [IntKind.bits, dflt]; omega) | (simp at *; omega))
        | rfl)
theorem allS_mv {xs : List Ed} {b : Ed} (h : allS xs = true) : allS (mvL xs b) = (mvL xs b).all smE := by
  have := allS_len h
  unfold allS
  rw [mvL_len, decide_eq_true this, Bool.true_and]
set_option maxHeartbeats 4000000 in
set_option maxRecDepth 20000 in
theorem imoved_yes (xs ys : List Ed) (b : Ed) (hx : allS xs = true) (hy : allS ys = true) (hb : smE b = true) : FnC Try.prog 37 [aSt xs ys, aEd b] [aSt0, aEd0] (.tu [(true, [oEf (if ((mvL xs b).all smE && (mvL ys b).all smE) = true then mvL xs b else []), oEf (if ((mvL xs b).all smE && (mvL ys b).all smE) = true then mvL ys b else [])]), (false, [sB ((mvL xs b).all smE && (mvL ys b).all smE)])]) := by
  have hx6 := allS_len hx
  have hy6 := allS_len hy
  have h1 := isstack_ok xs ys (by omega) (by omega)
  have h2 := issmall_ok b
  have h3 := imvd_ok xs ys b hx hy hb
  have h4 := isstack_ok (mvL xs b) (mvL ys b) (by rw [mvL_len]; omega) (by rw [mvL_len]; omega)
  rw [allS_mv hx, allS_mv hy] at h4
  rw [hx, hy] at h1
  rw [hb] at h2
  cases hc : ((mvL xs b).all smE && (mvL ys b).all smE) with
  | true =>
    rw [hc] at h4
    rw [if_pos rfl, if_pos rfl]
    refine FnC_of (fn := Try.f37) Try.func37 rfl rfl rfl ?_
    repeat' (first
      | exact trivial
      | (refine inWO ?_; first
        | refine WO_runE (nw := true) rfl rfl ?_ ?_
        | refine WO_runG (nw := true) rfl rfl rfl rfl rfl ?_ ?_
        | refine WO_runU (nw := true) rfl rfl rfl rfl rfl ?_ ?_
        | refine WO_run1 (nw := true) rfl rfl ?_ ?_
        | refine WO_cons rfl ?_
        | refine WO_gT rfl rfl rfl rfl rfl ?_
        | (refine WO_split rfl rfl rfl rfl ?_ ?_ <;> intro hq <;> try (exfalso; (simp_all) <;> omega))
        | refine WO_nil ?_)
      | (refine inRW ?_; first
        | refine RW_runE (nw := true) rfl rfl (fun _ _ => rfl) rfl ?_ ?_
        | refine RW_runG (nw := true) rfl rfl rfl rfl rfl (fun _ _ => rfl) rfl ?_ ?_
        | refine RW_runU (nw := true) rfl rfl rfl rfl rfl (fun _ _ => rfl) rfl ?_ ?_
        | refine RW_op (us := ?_) (ub := ?_) (fp := ?_) rfl (fun s0 b0 => ?_) ?_ ?_
        | refine RW_opT (us := ?_) (ub := ?_) (fp := ?_) rfl rfl rfl rfl (fun s0 b0 => ?_) ?_ ?_
        | (refine RW_split rfl rfl rfl ?_ ?_ <;> intro hq <;> try (exfalso; (simp_all) <;> omega))
        | refine RW_nil ?_ (by first | decide +kernel | kernel_rfl))
      | (refine gate 1 rfl ?_; first
        | refine callD false (h1) rfl rfl rfl rfl ⟨⟨rfl, rfl, trivial⟩, trivial⟩ rfl rfl ?_
        | refine callD false (h2) rfl rfl rfl rfl (by (repeat' (first | exact trivial | refine And.intro ?_ ?_ | rfl)); done) rfl rfl ?_
        | refine callD false (h3) rfl rfl rfl rfl (by (repeat' (first | exact trivial | refine And.intro ?_ ?_ | rfl)); done) rfl rfl ?_
        | refine callD true (h4) rfl rfl rfl rfl ⟨⟨rfl, rfl, trivial⟩, trivial⟩ rfl rfl ?_)
      | (refine gate 5 rfl ?_; first
        | refine litR rfl rfl rfl rfl rfl rfl rfl rfl ?_
        | refine litW rfl rfl rfl rfl rfl rfl ?_)
      | (refine gate 2 rfl ?_; first
        | refine apOS rfl rfl rfl rfl rfl rfl rfl rfl rfl rfl rfl ?_ ?_ ?_
        | refine apOL rfl rfl rfl rfl rfl rfl rfl rfl rfl rfl rfl rfl ?_ ?_ ?_
        | refine apNS rfl rfl rfl rfl rfl rfl rfl rfl rfl rfl rfl ?_ ?_ ?_
        | refine apNL rfl rfl rfl rfl rfl rfl rfl rfl rfl rfl rfl rfl ?_ ?_ ?_
        | refine apDO rfl rfl rfl rfl rfl rfl rfl rfl rfl rfl rfl rfl rfl rfl ?_ ?_ ?_
        | refine apDN rfl rfl rfl rfl rfl rfl rfl rfl rfl rfl rfl rfl rfl rfl ?_ ?_ ?_
        | refine op_apMk _ rfl rfl rfl rfl rfl rfl rfl rfl rfl rfl rfl rfl rfl ?_ ?_ ?_ ?_
        | refine apDS rfl rfl rfl rfl rfl rfl rfl rfl rfl rfl rfl ?_ ?_ ?_)
      | (refine gate 6 rfl ?_; refine mkS rfl rfl rfl rfl rfl rfl rfl rfl rfl rfl rfl rfl rfl ?_ ?_ ?_ ?_)
      | (refine gate 6 rfl ?_; refine op_makeD _ rfl rfl rfl rfl rfl rfl rfl rfl rfl rfl rfl rfl rfl ?_ ?_ ?_ ?_)
      | (refine gate 0 rfl ?_; refine op_storeD rfl rfl rfl rfl rfl rfl rfl rfl rfl rfl ?_)
      | (refine gate 3 rfl ?_; refine op_capN rfl rfl rfl rfl rfl ?_)
      | (refine gate 3 rfl ?_; refine op_copy rfl rfl rfl rfl rfl rfl rfl rfl rfl rfl rfl ?_)
      | (refine gate 8 rfl ?_; refine op_mkFn rfl rfl rfl rfl ?_)
      | (refine gate 7 rfl ?_; refine op_nil rfl rfl rfl rfl rfl rfl (fun b hb => ?_))
      | (refine inW ?_; first
        | refine W_seq ?_
        | refine W_region ?_
        | refine W_drawN (by decide +kernel) ?_
        | refine W_block ?_
        | refine W_skip ?_
        | refine W_exit ?_
        | refine W_ret ?_
        | refine W_condT rfl rfl ?_
        | refine W_condF rfl rfl ?_
        | (refine W_condB rfl ?_ ?_ <;> intro hq <;> try (exfalso; (simp_all) <;> omega)))
      | (refine inE ?_; first
        | refine end_d rfl rfl rfl rfl ?_ ?_
        | refine end_o rfl rfl rfl rfl ?_ ?_
        | refine end_of rfl rfl rfl ?_ ?_)
      | refine rsOne ?_
      | refine msPd rfl ?_
      | refine msPn ?_
      | refine msPo rfl ?_
      | refine And.intro ?_ ?_
      | (show List.length _ ≠ 1; simp)
      | (show (_ : Int) ≤ _; first | omega | (simp [IntKind.bits, dflt]; done) | (simp [IntKind.bits, dflt]; omega) | (simp at *; omega))
      | (show (_ : Int) < _; first | omega | (simp [IntKind.bits, dflt]; done) | (simp [IntKind.bits, dflt]; omega) | (simp at *; omega))
      | (show (_ : Nat) ≤ _; first | omega | (unfold maxLen; omega) | (simp [IntKind.bits, dflt]; done) | (simp [IntKind.bits, dflt]; omega) | (simp at *; omega))
      | rfl)
  | false =>
    rw [hc] at h4
    rw [if_neg (by simp), if_neg (by simp)]
    refine FnC_of (fn := Try.f37) Try.func37 rfl rfl rfl ?_
    repeat' (first
      | exact trivial
      | (refine inWO ?_; first
        | refine WO_runE (nw := true) rfl rfl ?_ ?_
        | refine WO_runG (nw := true) rfl rfl rfl rfl rfl ?_ ?_
        | refine WO_runU (nw := true) rfl rfl rfl rfl rfl ?_ ?_
        | refine WO_run1 (nw := true) rfl rfl ?_ ?_
        | refine WO_cons rfl ?_
        | refine WO_gT rfl rfl rfl rfl rfl ?_
        | (refine WO_split rfl rfl rfl rfl ?_ ?_ <;> intro hq <;> try (exfalso; (simp_all) <;> omega))
        | refine WO_nil ?_)
      | (refine inRW ?_; first
        | refine RW_runE (nw := true) rfl rfl (fun _ _ => rfl) rfl ?_ ?_
        | refine RW_runG (nw := true) rfl rfl rfl rfl rfl (fun _ _ => rfl) rfl ?_ ?_
        | refine RW_runU (nw := true) rfl rfl rfl rfl rfl (fun _ _ => rfl) rfl ?_ ?_
        | refine RW_op (us := ?_) (ub := ?_) (fp := ?_) rfl (fun s0 b0 => ?_) ?_ ?_
        | refine RW_opT (us := ?_) (ub := ?_) (fp := ?_) rfl rfl rfl rfl (fun s0 b0 => ?_) ?_ ?_
        | (refine RW_split rfl rfl rfl ?_ ?_ <;> intro hq <;> try (exfalso; (simp_all) <;> omega))
        | refine RW_nil ?_ (by first | decide +kernel | kernel_rfl))
      | (refine gate 1 rfl ?_; first
        | refine callD false (h1) rfl rfl rfl rfl ⟨⟨rfl, rfl, trivial⟩, trivial⟩ rfl rfl ?_
        | refine callD false (h2) rfl rfl rfl rfl (by (repeat' (first | exact trivial | refine And.intro ?_ ?_ | rfl)); done) rfl rfl ?_
        | refine callD false (h3) rfl rfl rfl rfl (by (repeat' (first | exact trivial | refine And.intro ?_ ?_ | rfl)); done) rfl rfl ?_
        | refine callD true (h4) rfl rfl rfl rfl ⟨⟨rfl, rfl, trivial⟩, trivial⟩ rfl rfl ?_)
      | (refine gate 5 rfl ?_; first
        | refine litR rfl rfl rfl rfl rfl rfl rfl rfl ?_
        | refine litW rfl rfl rfl rfl rfl rfl ?_)
      | (refine gate 2 rfl ?_; first
        | refine apOS rfl rfl rfl rfl rfl rfl rfl rfl rfl rfl rfl ?_ ?_ ?_
        | refine apOL rfl rfl rfl rfl rfl rfl rfl rfl rfl rfl rfl rfl ?_ ?_ ?_
        | refine apNS rfl rfl rfl rfl rfl rfl rfl rfl rfl rfl rfl ?_ ?_ ?_
        | refine apNL rfl rfl rfl rfl rfl rfl rfl rfl rfl rfl rfl rfl ?_ ?_ ?_
        | refine apDO rfl rfl rfl rfl rfl rfl rfl rfl rfl rfl rfl rfl rfl rfl ?_ ?_ ?_
        | refine apDN rfl rfl rfl rfl rfl rfl rfl rfl rfl rfl rfl rfl rfl rfl ?_ ?_ ?_
        | refine op_apMk _ rfl rfl rfl rfl rfl rfl rfl rfl rfl rfl rfl rfl rfl ?_ ?_ ?_ ?_
        | refine apDS rfl rfl rfl rfl rfl rfl rfl rfl rfl rfl rfl ?_ ?_ ?_)
      | (refine gate 6 rfl ?_; refine mkS rfl rfl rfl rfl rfl rfl rfl rfl rfl rfl rfl rfl rfl ?_ ?_ ?_ ?_)
      | (refine gate 6 rfl ?_; refine op_makeD _ rfl rfl rfl rfl rfl rfl rfl rfl rfl rfl rfl rfl rfl ?_ ?_ ?_ ?_)
      | (refine gate 0 rfl ?_; refine op_storeD rfl rfl rfl rfl rfl rfl rfl rfl rfl rfl ?_)
      | (refine gate 3 rfl ?_; refine op_capN rfl rfl rfl rfl rfl ?_)
      | (refine gate 3 rfl ?_; refine op_copy rfl rfl rfl rfl rfl rfl rfl rfl rfl rfl rfl ?_)
      | (refine gate 8 rfl ?_; refine op_mkFn rfl rfl rfl rfl ?_)
      | (refine gate 7 rfl ?_; refine op_nil rfl rfl rfl rfl rfl rfl (fun b hb => ?_))
      | (refine inW ?_; first
        | refine W_seq ?_
        | refine W_region ?_
        | refine W_drawN (by decide +kernel) ?_
        | refine W_block ?_
        | refine W_skip ?_
        | refine W_exit ?_
        | refine W_ret ?_
        | refine W_condT rfl rfl ?_
        | refine W_condF rfl rfl ?_
        | (refine W_condB rfl ?_ ?_ <;> intro hq <;> try (exfalso; (simp_all) <;> omega)))
      | (refine inE ?_; first
        | refine end_d rfl rfl rfl rfl ?_ ?_
        | refine end_o rfl rfl rfl rfl ?_ ?_
        | refine end_of rfl rfl rfl ?_ ?_)
      | refine rsOne ?_
      | refine msPd rfl ?_
      | refine msPn ?_
      | refine msPo rfl ?_
      | refine And.intro ?_ ?_
      | (show List.length _ ≠ 1; simp)
      | (show (_ : Int) ≤ _; first | omega | (simp [IntKind.bits, dflt]; done) | (simp [IntKind.bits, dflt]; omega) | (simp at *; omega))
      | (show (_ : Int) < _; first | omega | (simp [IntKind.bits, dflt]; done) | (simp [IntKind.bits, dflt]; omega) | (simp at *; omega))
      | (show (_ : Nat) ≤ _; first | omega | (unfold maxLen; omega) | (simp [IntKind.bits, dflt]; done) | (simp [IntKind.bits, dflt]; omega) | (simp at *; omega))
      | rfl)
set_option maxHeartbeats 4000000 in
set_option maxRecDepth 20000 in
theorem imoved_no (xs ys : List Ed) (b : Ed) (hx : xs.length ≤ 1000) (hy : ys.length ≤ 1000) (h : ((allS xs && allS ys) && smE b) = false) : FnC Try.prog 37 [aSt xs ys, aEd b] [aSt0, aEd0] (.tu [(true, [oEf [], oEf []]), (false, [sB false])]) := by
  have h1 := isstack_ok xs ys (by omega) (by omega)
  have h2 := issmall_ok b
  refine FnC_of (fn := Try.f37) Try.func37 rfl rfl rfl ?_
  repeat' (first
    | exact trivial
    | (refine inWO ?_; first
      | refine WO_runE (nw := true) rfl rfl ?_ ?_
      | refine WO_runG (nw := true) rfl rfl rfl rfl rfl ?_ ?_
      | refine WO_runU (nw := true) rfl rfl rfl rfl rfl ?_ ?_
      | refine WO_run1 (nw := true) rfl rfl ?_ ?_
      | refine WO_cons rfl ?_
      | refine WO_gT rfl rfl rfl rfl rfl ?_
      | (refine WO_split rfl rfl rfl rfl ?_ ?_ <;> intro hq <;> try (exfalso; (simp_all) <;> omega))
      | refine WO_nil ?_)
    | (refine inRW ?_; first
      | refine RW_runE (nw := true) rfl rfl (fun _ _ => rfl) rfl ?_ ?_
      | refine RW_runG (nw := true) rfl rfl rfl rfl rfl (fun _ _ => rfl) rfl ?_ ?_
      | refine RW_runU (nw := true) rfl rfl rfl rfl rfl (fun _ _ => rfl) rfl ?_ ?_
      | refine RW_op (us := ?_) (ub := ?_) (fp := ?_) rfl (fun s0 b0 => ?_) ?_ ?_
      | refine RW_opT (us := ?_) (ub := ?_) (fp := ?_) rfl rfl rfl rfl (fun s0 b0 => ?_) ?_ ?_
      | (refine RW_split rfl rfl rfl ?_ ?_ <;> intro hq <;> try (exfalso; (simp_all) <;> omega))
      | refine RW_nil ?_ (by first | decide +kernel | kernel_rfl))
    | (refine gate 1 rfl ?_; first
      | refine callD false (h1) rfl rfl rfl rfl ⟨⟨rfl, rfl, trivial⟩, trivial⟩ rfl rfl ?_
      | refine callD false (h2) rfl rfl rfl rfl (by (repeat' (first | exact trivial | refine And.intro ?_ ?_ | rfl)); done) rfl rfl ?_)
    | (refine gate 5 rfl ?_; first
      | refine litR rfl rfl rfl rfl rfl rfl rfl rfl ?_
      | refine litW rfl rfl rfl rfl rfl rfl ?_)
    | (refine gate 2 rfl ?_; first
      | refine apOS rfl rfl rfl rfl rfl rfl rfl rfl rfl rfl rfl ?_ ?_ ?_
      | refine apOL rfl rfl rfl rfl rfl rfl rfl rfl rfl rfl rfl rfl ?_ ?_ ?_
      | refine apNS rfl rfl rfl rfl rfl rfl rfl rfl rfl rfl rfl ?_ ?_ ?_
      | refine apNL rfl rfl rfl rfl rfl rfl rfl rfl rfl rfl rfl rfl ?_ ?_ ?_
      | refine apDO rfl rfl rfl rfl rfl rfl rfl rfl rfl rfl rfl rfl rfl rfl ?_ ?_ ?_
      | refine apDN rfl rfl rfl rfl rfl rfl rfl rfl rfl rfl rfl rfl rfl rfl ?_ ?_ ?_
      | refine op_apMk _ rfl rfl rfl rfl rfl rfl rfl rfl rfl rfl rfl rfl rfl ?_ ?_ ?_ ?_
      | refine apDS rfl rfl rfl rfl rfl rfl rfl rfl rfl rfl rfl ?_ ?_ ?_)
    | (refine gate 6 rfl ?_; refine mkS rfl rfl rfl rfl rfl rfl rfl rfl rfl rfl rfl rfl rfl ?_ ?_ ?_ ?_)
    | (refine gate 6 rfl ?_; refine op_makeD _ rfl rfl rfl rfl rfl rfl rfl rfl rfl rfl rfl rfl rfl ?_ ?_ ?_ ?_)
    | (refine gate 0 rfl ?_; refine op_storeD rfl rfl rfl rfl rfl rfl rfl rfl rfl rfl ?_)
    | (refine gate 3 rfl ?_; refine op_capN rfl rfl rfl rfl rfl ?_)
    | (refine gate 3 rfl ?_; refine op_copy rfl rfl rfl rfl rfl rfl rfl rfl rfl rfl rfl ?_)
    | (refine gate 8 rfl ?_; refine op_mkFn rfl rfl rfl rfl ?_)
    | (refine gate 7 rfl ?_; refine op_nil rfl rfl rfl rfl rfl rfl (fun b hb => ?_))
    | (refine inW ?_; first
      | refine W_seq ?_
      | refine W_region ?_
      | refine W_drawN (by decide +kernel) ?_
      | refine W_block ?_
      | refine W_skip ?_
      | refine W_exit ?_
      | refine W_ret ?_
      | refine W_condT rfl rfl ?_
      | refine W_condF rfl rfl ?_
      | (refine W_condB rfl ?_ ?_ <;> intro hq <;> try (exfalso; (simp_all) <;> omega)))
    | (refine inE ?_; first
      | refine end_d rfl rfl rfl rfl ?_ ?_
      | refine end_o rfl rfl rfl rfl ?_ ?_
      | refine end_of rfl rfl rfl ?_ ?_)
    | refine rsOne ?_
    | refine msPd rfl ?_
    | refine msPn ?_
    | refine msPo rfl ?_
    | refine And.intro ?_ ?_
    | (show List.length _ ≠ 1; simp)
    | (show (_ : Int) ≤ _; first | omega | (simp [IntKind.bits, dflt]; done) | (simp [IntKind.bits, dflt]; omega) | (simp at *; omega))
    | (show (_ : Int) < _; first | omega | (simp [IntKind.bits, dflt]; done) | (simp [IntKind.bits, dflt]; omega) | (simp at *; omega))
    | (show (_ : Nat) ≤ _; first | omega | (unfold maxLen; omega) | (simp [IntKind.bits, dflt]; done) | (simp [IntKind.bits, dflt]; omega) | (simp at *; omega))
    | rfl)
  all_goals (clear h1 h2; exfalso; simp_all)
set_option maxHeartbeats 4000000 in
set_option maxRecDepth 20000 in
theorem smoved_yes (xs ys : List Ed) (b : Ed) (hx : allS xs = true) (hy : allS ys = true) (hb : smE b = true) : FnC Try.prog 36 [aSt xs ys, aEd b] [aSt0, aEd0] (.tu [(true, [oEs (if ((mvL xs b).all smE && (mvL ys b).all smE) = true then mvL xs b else []), oEs (if ((mvL xs b).all smE && (mvL ys b).all smE) = true then mvL ys b else [])]), (false, [sB ((mvL xs b).all smE && (mvL ys b).all smE)])]) := by
  have hx6 := allS_len hx
  have hy6 := allS_len hy
  have h1 := stackok_ok xs ys (by omega) (by omega)
  have h2 := l05small_ok b
  have h3 := l08moved_ok xs b hx hb
  have h4 := l08moved_ok ys b hy hb
  rw [hx, hy] at h1
  rw [hb] at h2
  generalize (mvL xs b).all smE = c1 at *
  generalize (mvL ys b).all smE = c2 at *
  cases c1 <;> cases c2
  all_goals simp only [if_true, Bool.false_eq_true, if_false, Bool.and_self, Bool.and_false, Bool.and_true, Bool.true_and, Bool.false_and] at h3 h4 ⊢
  · refine FnC_of (fn := Try.f36) Try.func36 rfl rfl rfl ?_
    repeat' (first
      | exact trivial
      | (refine inWO ?_; first
        | refine WO_runE (nw := true) rfl rfl ?_ ?_
        | refine WO_runG (nw := true) rfl rfl rfl rfl rfl ?_ ?_
        | refine WO_runU (nw := true) rfl rfl rfl rfl rfl ?_ ?_
        | refine WO_run1 (nw := true) rfl rfl ?_ ?_
        | refine WO_cons rfl ?_
        | refine WO_gT rfl rfl rfl rfl rfl ?_
        | (refine WO_split rfl rfl rfl rfl ?_ ?_ <;> intro hq <;> try (exfalso; (simp_all) <;> omega))
        | refine WO_nil ?_)
      | (refine inRW ?_; first
        | refine RW_runE (nw := true) rfl rfl (fun _ _ => rfl) rfl ?_ ?_
        | refine RW_runG (nw := true) rfl rfl rfl rfl rfl (fun _ _ => rfl) rfl ?_ ?_
        | refine RW_runU (nw := true) rfl rfl rfl rfl rfl (fun _ _ => rfl) rfl ?_ ?_
        | refine RW_op (us := ?_) (ub := ?_) (fp := ?_) rfl (fun s0 b0 => ?_) ?_ ?_
        | refine RW_opT (us := ?_) (ub := ?_) (fp := ?_) rfl rfl rfl rfl (fun s0 b0 => ?_) ?_ ?_
        | (refine RW_split rfl rfl rfl ?_ ?_ <;> intro hq <;> try (exfalso; (simp_all) <;> omega))
        | refine RW_nil ?_ (by first | decide +kernel | kernel_rfl))
      | (refine gate 1 rfl ?_; first
        | refine callD false (h1) rfl rfl rfl rfl ⟨⟨rfl, rfl, trivial⟩, trivial⟩ rfl rfl ?_
        | refine callD false (h2) rfl rfl rfl rfl (by (repeat' (first | exact trivial | refine And.intro ?_ ?_ | rfl)); done) rfl rfl ?_
        | refine callD false (h3) rfl rfl rfl rfl ⟨rfl, ⟨rfl, rfl, rfl, trivial⟩, trivial⟩ rfl rfl ?_
        | refine callD false (h4) rfl rfl rfl rfl ⟨rfl, ⟨rfl, rfl, rfl, trivial⟩, trivial⟩ rfl rfl ?_)
      | (refine gate 5 rfl ?_; first
        | refine litR rfl rfl rfl rfl rfl rfl rfl rfl ?_
        | refine litW rfl rfl rfl rfl rfl rfl ?_)
      | (refine gate 2 rfl ?_; first
        | refine apOS rfl rfl rfl rfl rfl rfl rfl rfl rfl rfl rfl ?_ ?_ ?_
        | refine apOL rfl rfl rfl rfl rfl rfl rfl rfl rfl rfl rfl rfl ?_ ?_ ?_
        | refine apNS rfl rfl rfl rfl rfl rfl rfl rfl rfl rfl rfl ?_ ?_ ?_
        | refine apNL rfl rfl rfl rfl rfl rfl rfl rfl rfl rfl rfl rfl ?_ ?_ ?_
        | refine apDO rfl rfl rfl rfl rfl rfl rfl rfl rfl rfl rfl rfl rfl rfl ?_ ?_ ?_
        | refine apDN rfl rfl rfl rfl rfl rfl rfl rfl rfl rfl rfl rfl rfl rfl ?_ ?_ ?_
        | refine op_apMk _ rfl rfl rfl rfl rfl rfl rfl rfl rfl rfl rfl rfl rfl ?_ ?_ ?_ ?_
        | refine apDS rfl rfl rfl rfl rfl rfl rfl rfl rfl rfl rfl ?_ ?_ ?_)
      | (refine gate 6 rfl ?_; refine mkS rfl rfl rfl rfl rfl rfl rfl rfl rfl rfl rfl rfl rfl ?_ ?_ ?_ ?_)
      | (refine gate 6 rfl ?_; refine op_makeD _ rfl rfl rfl rfl rfl rfl rfl rfl rfl rfl rfl rfl rfl ?_ ?_ ?_ ?_)
      | (refine gate 0 rfl ?_; refine op_storeD rfl rfl rfl rfl rfl rfl rfl rfl rfl rfl ?_)
      | (refine gate 3 rfl ?_; refine op_capN rfl rfl rfl rfl rfl ?_)
      | (refine gate 3 rfl ?_; refine op_copy rfl rfl rfl rfl rfl rfl rfl rfl rfl rfl rfl ?_)
      | (refine gate 8 rfl ?_; refine op_mkFn rfl rfl rfl rfl ?_)
      | (refine gate 7 rfl ?_; refine op_nil rfl rfl rfl rfl rfl rfl (fun b hb => ?_))
      | (refine inW ?_; first
        | refine W_seq ?_
        | refine W_region ?_
        | refine W_drawN (by decide +kernel) ?_
        | refine W_block ?_
        | refine W_skip ?_
        | refine W_exit ?_
        | refine W_ret ?_
        | refine W_condT rfl rfl ?_
        | refine W_condF rfl rfl ?_
        | (refine W_condB rfl ?_ ?_ <;> intro hq <;> try (exfalso; (simp_all) <;> omega)))
      | (refine inE ?_; first
        | refine end_d rfl rfl rfl rfl ?_ ?_
        | refine end_o rfl rfl rfl rfl ?_ ?_
        | refine end_of rfl rfl rfl ?_ ?_)
      | refine rsOne ?_
      | refine msPd rfl ?_
      | refine msPn ?_
      | refine msPo rfl ?_
      | refine And.intro ?_ ?_
      | (show List.length _ ≠ 1; simp)
      | (show (_ : Int) ≤ _; first | omega | (simp [IntKind.bits, dflt]; done) | (simp [IntKind.bits, dflt]; omega) | (simp at *; omega))
      | (show (_ : Int) < _; first | omega | (simp [IntKind.bits, dflt]; done) | (simp [IntKind.bits, dflt]; omega) | (simp at *; omega))
      | (show (_ : Nat) ≤ _; first | omega | (unfold maxLen; omega) | (simp [IntKind.bits, dflt]; done) | (simp [IntKind.bits, dflt]; omega) | (simp at *; omega))
      | rfl)
  · refine FnC_of (fn := Try.f36) Try.func36 rfl rfl rfl ?_
    repeat' (first
      | exact trivial
      | (refine inWO ?_; first
        | refine WO_runE (nw := true) rfl rfl ?_ ?_
        | refine WO_runG (nw := true) rfl rfl rfl rfl rfl ?_ ?_
        | refine WO_runU (nw := true) rfl rfl rfl rfl rfl ?_ ?_
        | refine WO_run1 (nw := true) rfl rfl ?_ ?_
        | refine WO_cons rfl ?_
        | refine WO_gT rfl rfl rfl rfl rfl ?_
        | (refine WO_split rfl rfl rfl rfl ?_ ?_ <;> intro hq <;> try (exfalso; (simp_all) <;> omega))
        | refine WO_nil ?_)
      | (refine inRW ?_; first
        | refine RW_runE (nw := true) rfl rfl (fun _ _ => rfl) rfl ?_ ?_
        | refine RW_runG (nw := true) rfl rfl rfl rfl rfl (fun _ _ => rfl) rfl ?_ ?_
        | refine RW_runU (nw := true) rfl rfl rfl rfl rfl (fun _ _ => rfl) rfl ?_ ?_
        | refine RW_op (us := ?_) (ub := ?_) (fp := ?_) rfl (fun s0 b0 => ?_) ?_ ?_
        | refine RW_opT (us := ?_) (ub := ?_) (fp := ?_) rfl rfl rfl rfl (fun s0 b0 => ?_) ?_ ?_
        | (refine RW_split rfl rfl rfl ?_ ?_ <;> intro hq <;> try (exfalso; (simp_all) <;> omega))
        | refine RW_nil ?_ (by first | decide +kernel | kernel_rfl))
      | (refine gate 1 rfl ?_; first
        | refine callD false (h1) rfl rfl rfl rfl ⟨⟨rfl, rfl, trivial⟩, trivial⟩ rfl rfl ?_
        | refine callD false (h2) rfl rfl rfl rfl (by (repeat' (first | exact trivial | refine And.intro ?_ ?_ | rfl)); done) rfl rfl ?_
        | refine callD false (h3) rfl rfl rfl rfl ⟨rfl, ⟨rfl, rfl, rfl, trivial⟩, trivial⟩ rfl rfl ?_
        | refine callD false (h4) rfl rfl rfl rfl ⟨rfl, ⟨rfl, rfl, rfl, trivial⟩, trivial⟩ rfl rfl ?_)
      | (refine gate 5 rfl ?_; first
        | refine litR rfl rfl rfl rfl rfl rfl rfl rfl ?_
        | refine litW rfl rfl rfl rfl rfl rfl ?_)
      | (refine gate 2 rfl ?_; first
        | refine apOS rfl rfl rfl rfl rfl rfl rfl rfl rfl rfl rfl ?_ ?_ ?_
        | refine apOL rfl rfl rfl rfl rfl rfl rfl rfl rfl rfl rfl rfl ?_ ?_ ?_
        | refine apNS rfl rfl rfl rfl rfl rfl rfl rfl rfl rfl rfl ?_ ?_ ?_
        | refine apNL rfl rfl rfl rfl rfl rfl rfl rfl rfl rfl rfl rfl ?_ ?_ ?_
        | refine apDO rfl rfl rfl rfl rfl rfl rfl rfl rfl rfl rfl rfl rfl rfl ?_ ?_ ?_
        | refine apDN rfl rfl rfl rfl rfl rfl rfl rfl rfl rfl rfl rfl rfl rfl ?_ ?_ ?_
        | refine op_apMk _ rfl rfl rfl rfl rfl rfl rfl rfl rfl rfl rfl rfl rfl ?_ ?_ ?_ ?_
        | refine apDS rfl rfl rfl rfl rfl rfl rfl rfl rfl rfl rfl ?_ ?_ ?_)
      | (refine gate 6 rfl ?_; refine mkS rfl rfl rfl rfl rfl rfl rfl rfl rfl rfl rfl rfl rfl ?_ ?_ ?_ ?_)
      | (refine gate 6 rfl ?_; refine op_makeD _ rfl rfl rfl rfl rfl rfl rfl rfl rfl rfl rfl rfl rfl ?_ ?_ ?_ ?_)
      | (refine gate 0 rfl ?_; refine op_storeD rfl rfl rfl rfl rfl rfl rfl rfl rfl rfl ?_)
      | (refine gate 3 rfl ?_; refine op_capN rfl rfl rfl rfl rfl ?_)
      | (refine gate 3 rfl ?_; refine op_copy rfl rfl rfl rfl rfl rfl rfl rfl rfl rfl rfl ?_)
      | (refine gate 8 rfl ?_; refine op_mkFn rfl rfl rfl rfl ?_)
      | (refine gate 7 rfl ?_; refine op_nil rfl rfl rfl rfl rfl rfl (fun b hb => ?_))
      | (refine inW ?_; first
        | refine W_seq ?_
        | refine W_region ?_
        | refine W_drawN (by decide +kernel) ?_
        | refine W_block ?_
        | refine W_skip ?_
        | refine W_exit ?_
        | refine W_ret ?_
        | refine W_condT rfl rfl ?_
        | refine W_condF rfl rfl ?_
        | (refine W_condB rfl ?_ ?_ <;> intro hq <;> try (exfalso; (simp_all) <;> omega)))
      | (refine inE ?_; first
        | refine end_d rfl rfl rfl rfl ?_ ?_
        | refine end_o rfl rfl rfl rfl ?_ ?_
        | refine end_of rfl rfl rfl ?_ ?_)
      | refine rsOne ?_
      | refine msPd rfl ?_
      | refine msPn ?_
      | refine msPo rfl ?_
      | refine And.intro ?_ ?_
      | (show List.length _ ≠ 1; simp)
      | (show (_ : Int) ≤ _; first | omega | (simp [IntKind.bits, dflt]; done) | (simp [IntKind.bits, dflt]; omega) | (simp at *; omega))
      | (show (_ : Int) < _; first | omega | (simp [IntKind.bits, dflt]; done) | (simp [IntKind.bits, dflt]; omega) | (simp at *; omega))
      | (show (_ : Nat) ≤ _; first | omega | (unfold maxLen; omega) | (simp [IntKind.bits, dflt]; done) | (simp [IntKind.bits, dflt]; omega) | (simp at *; omega))
      | rfl)
  · refine FnC_of (fn := Try.f36) Try.func36 rfl rfl rfl ?_
    repeat' (first
      | exact trivial
      | (refine inWO ?_; first
        | refine WO_runE (nw := true) rfl rfl ?_ ?_
        | refine WO_runG (nw := true) rfl rfl rfl rfl rfl ?_ ?_
        | refine WO_runU (nw := true) rfl rfl rfl rfl rfl ?_ ?_
        | refine WO_run1 (nw := true) rfl rfl ?_ ?_
        | refine WO_cons rfl ?_
        | refine WO_gT rfl rfl rfl rfl rfl ?_
        | (refine WO_split rfl rfl rfl rfl ?_ ?_ <;> intro hq <;> try (exfalso; (simp_all) <;> omega))
        | refine WO_nil ?_)
      | (refine inRW ?_; first
        | refine RW_runE (nw := true) rfl rfl (fun _ _ => rfl) rfl ?_ ?_
        | refine RW_runG (nw := true) rfl rfl rfl rfl rfl (fun _ _ => rfl) rfl ?_ ?_
        | refine RW_runU (nw := true) rfl rfl rfl rfl rfl (fun _ _ => rfl) rfl ?_ ?_
        | refine RW_op (us := ?_) (ub := ?_) (fp := ?_) rfl (fun s0 b0 => ?_) ?_ ?_
        | refine RW_opT (us := ?_) (ub := ?_) (fp := ?_) rfl rfl rfl rfl (fun s0 b0 => ?_) ?_ ?_
        | (refine RW_split rfl rfl rfl ?_ ?_ <;> intro hq <;> try (exfalso; (simp_all) <;> omega))
        | refine RW_nil ?_ (by first | decide +kernel | kernel_rfl))
      | (refine gate 1 rfl ?_; first
        | refine callD false (h1) rfl rfl rfl rfl ⟨⟨rfl, rfl, trivial⟩, trivial⟩ rfl rfl ?_
        | refine callD false (h2) rfl rfl rfl rfl (by (repeat' (first | exact trivial | refine And.intro ?_ ?_ | rfl)); done) rfl rfl ?_
        | refine callD false (h3) rfl rfl rfl rfl ⟨rfl, ⟨rfl, rfl, rfl, trivial⟩, trivial⟩ rfl rfl ?_
        | refine callD false (h4) rfl rfl rfl rfl ⟨rfl, ⟨rfl, rfl, rfl, trivial⟩, trivial⟩ rfl rfl ?_)
      | (refine gate 5 rfl ?_; first
        | refine litR rfl rfl rfl rfl rfl rfl rfl rfl ?_
        | refine litW rfl rfl rfl rfl rfl rfl ?_)
      | (refine gate 2 rfl ?_; first
        | refine apOS rfl rfl rfl rfl rfl rfl rfl rfl rfl rfl rfl ?_ ?_ ?_
        | refine apOL rfl rfl rfl rfl rfl rfl rfl rfl rfl rfl rfl rfl ?_ ?_ ?_
        | refine apNS rfl rfl rfl rfl rfl rfl rfl rfl rfl rfl rfl ?_ ?_ ?_
        | refine apNL rfl rfl rfl rfl rfl rfl rfl rfl rfl rfl rfl rfl ?_ ?_ ?_
        | refine apDO rfl rfl rfl rfl rfl rfl rfl rfl rfl rfl rfl rfl rfl rfl ?_ ?_ ?_
        | refine apDN rfl rfl rfl rfl rfl rfl rfl rfl rfl rfl rfl rfl rfl rfl ?_ ?_ ?_
        | refine op_apMk _ rfl rfl rfl rfl rfl rfl rfl rfl rfl rfl rfl rfl rfl ?_ ?_ ?_ ?_
        | refine apDS rfl rfl rfl rfl rfl rfl rfl rfl rfl rfl rfl ?_ ?_ ?_)
      | (refine gate 6 rfl ?_; refine mkS rfl rfl rfl rfl rfl rfl rfl rfl rfl rfl rfl rfl rfl ?_ ?_ ?_ ?_)
      | (refine gate 6 rfl ?_; refine op_makeD _ rfl rfl rfl rfl rfl rfl rfl rfl rfl rfl rfl rfl rfl ?_ ?_ ?_ ?_)
      | (refine gate 0 rfl ?_; refine op_storeD rfl rfl rfl rfl rfl rfl rfl rfl rfl rfl ?_)
      | (refine gate 3 rfl ?_; refine op_capN rfl rfl rfl rfl rfl ?_)
      | (refine gate 3 rfl ?_; refine op_copy rfl rfl rfl rfl rfl rfl rfl rfl rfl rfl rfl ?_)
      | (refine gate 8 rfl ?_; refine op_mkFn rfl rfl rfl rfl ?_)
      | (refine gate 7 rfl ?_; refine op_nil rfl rfl rfl rfl rfl rfl (fun b hb => ?_))
      | (refine inW ?_; first
        | refine W_seq ?_
        | refine W_region ?_
        | refine W_drawN (by decide +kernel) ?_
        | refine W_block ?_
        | refine W_skip ?_
        | refine W_exit ?_
        | refine W_ret ?_
        | refine W_condT rfl rfl ?_
        | refine W_condF rfl rfl ?_
        | (refine W_condB rfl ?_ ?_ <;> intro hq <;> try (exfalso; (simp_all) <;> omega)))
      | (refine inE ?_; first
        | refine end_d rfl rfl rfl rfl ?_ ?_
        | refine end_o rfl rfl rfl rfl ?_ ?_
        | refine end_of rfl rfl rfl ?_ ?_)
      | refine rsOne ?_
      | refine msPd rfl ?_
      | refine msPn ?_
      | refine msPo rfl ?_
      | refine And.intro ?_ ?_
      | (show List.length _ ≠ 1; simp)
      | (show (_ : Int) ≤ _; first | omega | (simp [IntKind.bits, dflt]; done) | (simp [IntKind.bits, dflt]; omega) | (simp at *; omega))
      | (show (_ : Int) < _; first | omega | (simp [IntKind.bits, dflt]; done) | (simp [IntKind.bits, dflt]; omega) | (simp at *; omega))
      | (show (_ : Nat) ≤ _; first | omega | (unfold maxLen; omega) | (simp [IntKind.bits, dflt]; done) | (simp [IntKind.bits, dflt]; omega) | (simp at *; omega))
      | rfl)
  · refine FnC_of (fn := Try.f36) Try.func36 rfl rfl rfl ?_
    repeat' (first
      | exact trivial
      | (refine inWO ?_; first
        | refine WO_runE (nw := true) rfl rfl ?_ ?_
        | refine WO_runG (nw := true) rfl rfl rfl rfl rfl ?_ ?_
        | refine WO_runU (nw := true) rfl rfl rfl rfl rfl ?_ ?_
        | refine WO_run1 (nw := true) rfl rfl ?_ ?_
        | refine WO_cons rfl ?_
        | refine WO_gT rfl rfl rfl rfl rfl ?_
        | (refine WO_split rfl rfl rfl rfl ?_ ?_ <;> intro hq <;> try (exfalso; (simp_all) <;> omega))
        | refine WO_nil ?_)
      | (refine inRW ?_; first
        | refine RW_runE (nw := true) rfl rfl (fun _ _ => rfl) rfl ?_ ?_
        | refine RW_runG (nw := true) rfl rfl rfl rfl rfl (fun _ _ => rfl) rfl ?_ ?_
        | refine RW_runU (nw := true) rfl rfl rfl rfl rfl (fun _ _ => rfl) rfl ?_ ?_
        | refine RW_op (us := ?_) (ub := ?_) (fp := ?_) rfl (fun s0 b0 => ?_) ?_ ?_
        | refine RW_opT (us := ?_) (ub := ?_) (fp := ?_) rfl rfl rfl rfl (fun s0 b0 => ?_) ?_ ?_
        | (refine RW_split rfl rfl rfl ?_ ?_ <;> intro hq <;> try (exfalso; (simp_all) <;> omega))
        | refine RW_nil ?_ (by first | decide +kernel | kernel_rfl))
      | (refine gate 1 rfl ?_; first
        | refine callD false (h1) rfl rfl rfl rfl ⟨⟨rfl, rfl, trivial⟩, trivial⟩ rfl rfl ?_
        | refine callD false (h2) rfl rfl rfl rfl (by (repeat' (first | exact trivial | refine And.intro ?_ ?_ | rfl)); done) rfl rfl ?_
        | refine callD false (h3) rfl rfl rfl rfl ⟨rfl, ⟨rfl, rfl, rfl, trivial⟩, trivial⟩ rfl rfl ?_
        | refine callD false (h4) rfl rfl rfl rfl ⟨rfl, ⟨rfl, rfl, rfl, trivial⟩, trivial⟩ rfl rfl ?_)
      | (refine gate 5 rfl ?_; first
        | refine litR rfl rfl rfl rfl rfl rfl rfl rfl ?_
        | refine litW rfl rfl rfl rfl rfl rfl ?_)
      | (refine gate 2 rfl ?_; first
        | refine apOS rfl rfl rfl rfl rfl rfl rfl rfl rfl rfl rfl ?_ ?_ ?_
        | refine apOL rfl rfl rfl rfl rfl rfl rfl rfl rfl rfl rfl rfl ?_ ?_ ?_
        | refine apNS rfl rfl rfl rfl rfl rfl rfl rfl rfl rfl rfl ?_ ?_ ?_
        | refine apNL rfl rfl rfl rfl rfl rfl rfl rfl rfl rfl rfl rfl ?_ ?_ ?_
        | refine apDO rfl rfl rfl rfl rfl rfl rfl rfl rfl rfl rfl rfl rfl rfl ?_ ?_ ?_
        | refine apDN rfl rfl rfl rfl rfl rfl rfl rfl rfl rfl rfl rfl rfl rfl ?_ ?_ ?_
        | refine op_apMk _ rfl rfl rfl rfl rfl rfl rfl rfl rfl rfl rfl rfl rfl ?_ ?_ ?_ ?_
        | refine apDS rfl rfl rfl rfl rfl rfl rfl rfl rfl rfl rfl ?_ ?_ ?_)
      | (refine gate 6 rfl ?_; refine mkS rfl rfl rfl rfl rfl rfl rfl rfl rfl rfl rfl rfl rfl ?_ ?_ ?_ ?_)
      | (refine gate 6 rfl ?_; refine op_makeD _ rfl rfl rfl rfl rfl rfl rfl rfl rfl rfl rfl rfl rfl ?_ ?_ ?_ ?_)
      | (refine gate 0 rfl ?_; refine op_storeD rfl rfl rfl rfl rfl rfl rfl rfl rfl rfl ?_)
      | (refine gate 3 rfl ?_; refine op_capN rfl rfl rfl rfl rfl ?_)
      | (refine gate 3 rfl ?_; refine op_copy rfl rfl rfl rfl rfl rfl rfl rfl rfl rfl rfl ?_)
      | (refine gate 8 rfl ?_; refine op_mkFn rfl rfl rfl rfl ?_)
      | (refine gate 7 rfl ?_; refine op_nil rfl rfl rfl rfl rfl rfl (fun b hb => ?_))
      | (refine inW ?_; first
        | refine W_seq ?_
        | refine W_region ?_
        | refine W_drawN (by decide +kernel) ?_
        | refine W_block ?_
        | refine W_skip ?_
        | refine W_exit ?_
        | refine W_ret ?_
        | refine W_condT rfl rfl ?_
        | refine W_condF rfl rfl ?_
        | (refine W_condB rfl ?_ ?_ <;> intro hq <;> try (exfalso; (simp_all) <;> omega)))
      | (refine inE ?_; first
        | refine end_d rfl rfl rfl rfl ?_ ?_
        | refine end_o rfl rfl rfl rfl ?_ ?_
        | refine end_of rfl rfl rfl ?_ ?_)
      | refine rsOne ?_
      | refine msPd rfl ?_
      | refine msPn ?_
      | refine msPo rfl ?_
      | refine And.intro ?_ ?_
      | (show List.length _ ≠ 1; simp)
      | (show (_ : Int) ≤ _; first | omega | (simp [IntKind.bits, dflt]; done) | (simp [IntKind.bits, dflt]; omega) | (simp at *; omega))
      | (show (_ : Int) < _; first | omega | (simp [IntKind.bits, dflt]; done) | (simp [IntKind.bits, dflt]; omega) | (simp at *; omega))
      | (show (_ : Nat) ≤ _; first | omega | (unfold maxLen; omega) | (simp [IntKind.bits, dflt]; done) | (simp [IntKind.bits, dflt]; omega) | (simp at *; omega))
      | rfl)
set_option maxHeartbeats 4000000 in
set_option maxRecDepth 20000 in
theorem smoved_no (xs ys : List Ed) (b : Ed) (hx : xs.length ≤ 1000) (hy : ys.length ≤ 1000) (h : ((allS xs && allS ys) && smE b) = false) : FnC Try.prog 36 [aSt xs ys, aEd b] [aSt0, aEd0] (.tu [(true, [oEs [], oEs []]), (false, [sB false])]) := by
  have h1 := stackok_ok xs ys (by omega) (by omega)
  have h2 := l05small_ok b
  refine FnC_of (fn := Try.f36) Try.func36 rfl rfl rfl ?_
  repeat' (first
    | exact trivial
    | (refine inWO ?_; first
      | refine WO_runE (nw := true) rfl rfl ?_ ?_
      | refine WO_runG (nw := true) rfl rfl rfl rfl rfl ?_ ?_
      | refine WO_runU (nw := true) rfl rfl rfl rfl rfl ?_ ?_
      | refine WO_run1 (nw := true) rfl rfl ?_ ?_
      | refine WO_cons rfl ?_
      | refine WO_gT rfl rfl rfl rfl rfl ?_
      | (refine WO_split rfl rfl rfl rfl ?_ ?_ <;> intro hq <;> try (exfalso; (simp_all) <;> omega))
      | refine WO_nil ?_)
    | (refine inRW ?_; first
      | refine RW_runE (nw := true) rfl rfl (fun _ _ => rfl) rfl ?_ ?_
      | refine RW_runG (nw := true) rfl rfl rfl rfl rfl (fun _ _ => rfl) rfl ?_ ?_
      | refine RW_runU (nw := true) rfl rfl rfl rfl rfl (fun _ _ => rfl) rfl ?_ ?_
      | refine RW_op (us := ?_) (ub := ?_) (fp := ?_) rfl (fun s0 b0 => ?_) ?_ ?_
      | refine RW_opT (us := ?_) (ub := ?_) (fp := ?_) rfl rfl rfl rfl (fun s0 b0 => ?_) ?_ ?_
      | (refine RW_split rfl rfl rfl ?_ ?_ <;> intro hq <;> try (exfalso; (simp_all) <;> omega))
      | refine RW_nil ?_ (by first | decide +kernel | kernel_rfl))
    | (refine gate 1 rfl ?_; first
      | refine callD false (h1) rfl rfl rfl rfl ⟨⟨rfl, rfl, trivial⟩, trivial⟩ rfl rfl ?_
      | refine callD false (h2) rfl rfl rfl rfl (by (repeat' (first | exact trivial | refine And.intro ?_ ?_ | rfl)); done) rfl rfl ?_)
    | (refine gate 5 rfl ?_; first
      | refine litR rfl rfl rfl rfl rfl rfl rfl rfl ?_
      | refine litW rfl rfl rfl rfl rfl rfl ?_)
    | (refine gate 2 rfl ?_; first
      | refine apOS rfl rfl rfl rfl rfl rfl rfl rfl rfl rfl rfl ?_ ?_ ?_
      | refine apOL rfl rfl rfl rfl rfl rfl rfl rfl rfl rfl rfl rfl ?_ ?_ ?_
      | refine apNS rfl rfl rfl rfl rfl rfl rfl rfl rfl rfl rfl ?_ ?_ ?_
      | refine apNL rfl rfl rfl rfl rfl rfl rfl rfl rfl rfl rfl rfl ?_ ?_ ?_
      | refine apDO rfl rfl rfl rfl rfl rfl rfl rfl rfl rfl rfl rfl rfl rfl ?_ ?_ ?_
      | refine apDN rfl rfl rfl rfl rfl rfl rfl rfl rfl rfl rfl rfl rfl rfl ?_ ?_ ?_
      | refine op_apMk _ rfl rfl rfl rfl rfl rfl rfl rfl rfl rfl rfl rfl rfl ?_ ?_ ?_ ?_
      | refine apDS rfl rfl rfl rfl rfl rfl rfl rfl rfl rfl rfl ?_ ?_ ?_)
    | (refine gate 6 rfl ?_; refine mkS rfl rfl rfl rfl rfl rfl rfl rfl rfl rfl rfl rfl rfl ?_ ?_ ?_ ?_)
    | (refine gate 6 rfl ?_; refine op_makeD _ rfl rfl rfl rfl rfl rfl rfl rfl rfl rfl rfl rfl rfl ?_ ?_ ?_ ?_)
    | (refine gate 0 rfl ?_; refine op_storeD rfl rfl rfl rfl rfl rfl rfl rfl rfl rfl ?_)
    | (refine gate 3 rfl ?_; refine op_capN rfl rfl rfl rfl rfl ?_)
    | (refine gate 3 rfl ?_; refine op_copy rfl rfl rfl rfl rfl rfl rfl rfl rfl rfl rfl ?_)
    | (refine gate 8 rfl ?_; refine op_mkFn rfl rfl rfl rfl ?_)
    | (refine gate 7 rfl ?_; refine op_nil rfl rfl rfl rfl rfl rfl (fun b hb => ?_))
    | (refine inW ?_; first
      | refine W_seq ?_
      | refine W_region ?_
      | refine W_drawN (by decide +kernel) ?_
      | refine W_block ?_
      | refine W_skip ?_
      | refine W_exit ?_
      | refine W_ret ?_
      | refine W_condT rfl rfl ?_
      | refine W_condF rfl rfl ?_
      | (refine W_condB rfl ?_ ?_ <;> intro hq <;> try (exfalso; (simp_all) <;> omega)))
    | (refine inE ?_; first
      | refine end_d rfl rfl rfl rfl ?_ ?_
      | refine end_o rfl rfl rfl rfl ?_ ?_
      | refine end_of rfl rfl rfl ?_ ?_)
    | refine rsOne ?_
    | refine msPd rfl ?_
    | refine msPn ?_
    | refine msPo rfl ?_
    | refine And.intro ?_ ?_
    | (show List.length _ ≠ 1; simp)
    | (show (_ : Int) ≤ _; first | omega | (simp [IntKind.bits, dflt]; done) | (simp [IntKind.bits, dflt]; omega) | (simp at *; omega))
    | (show (_ : Int) < _; first | omega | (simp [IntKind.bits, dflt]; done) | (simp [IntKind.bits, dflt]; omega) | (simp at *; omega))
    | (show (_ : Nat) ≤ _; first | omega | (unfold maxLen; omega) | (simp [IntKind.bits, dflt]; done) | (simp [IntKind.bits, dflt]; omega) | (simp at *; omega))
    | rfl)
  all_goals (clear h1 h2; exfalso; simp_all)
set_option maxHeartbeats 4000000 in
set_option maxRecDepth 20000 in
theorem istackok_ok (xs ys : List Ed) (hx : xs.length ≤ 1000) (hy : ys.length ≤ 1000) : FnC Try.prog 38 [aSt xs ys] [aSt0] (.one (sB (allS xs && allS ys))) := by
  have h1 := isstack_ok xs ys (by omega) (by omega)
  refine FnC_of (fn := Try.f38) Try.func38 rfl rfl rfl ?_
  repeat' (first
    | exact trivial
    | (refine inWO ?_; first
      | refine WO_runE (nw := true) rfl rfl ?_ ?_
      | refine WO_runG (nw := true) rfl rfl rfl rfl rfl ?_ ?_
      | refine WO_runU (nw := true) rfl rfl rfl rfl rfl ?_ ?_
      | refine WO_run1 (nw := true) rfl rfl ?_ ?_
      | refine WO_cons rfl ?_
      | refine WO_gT rfl rfl rfl rfl rfl ?_
      | (refine WO_split rfl rfl rfl rfl ?_ ?_ <;> intro hq <;> try (exfalso; (simp_all) <;> omega))
      | refine WO_nil ?_)
    | (refine inRW ?_; first
      | refine RW_runE (nw := true) rfl rfl (fun _ _ => rfl) rfl ?_ ?_
      | refine RW_runG (nw := true) rfl rfl rfl rfl rfl (fun _ _ => rfl) rfl ?_ ?_
      | refine RW_runU (nw := true) rfl rfl rfl rfl rfl (fun _ _ => rfl) rfl ?_ ?_
      | refine RW_op (us := ?_) (ub := ?_) (fp := ?_) rfl (fun s0 b0 => ?_) ?_ ?_
      | refine RW_opT (us := ?_) (ub := ?_) (fp := ?_) rfl rfl rfl rfl (fun s0 b0 => ?_) ?_ ?_
      | (refine RW_split rfl rfl rfl ?_ ?_ <;> intro hq <;> try (exfalso; (simp_all) <;> omega))
      | refine RW_nil ?_ (by first | decide +kernel | kernel_rfl))
    | (refine gate 1 rfl ?_; first
      | refine callD false (h1) rfl rfl rfl rfl (by (repeat' (first | exact trivial | refine And.intro ?_ ?_ | rfl)); done) rfl rfl ?_)
    | (refine gate 5 rfl ?_; first
      | refine litR rfl rfl rfl rfl rfl rfl rfl rfl ?_
      | refine litW rfl rfl rfl rfl rfl rfl ?_)
    | (refine gate 2 rfl ?_; first
      | refine apOS rfl rfl rfl rfl rfl rfl rfl rfl rfl rfl rfl ?_ ?_ ?_
      | refine apOL rfl rfl rfl rfl rfl rfl rfl rfl rfl rfl rfl rfl ?_ ?_ ?_
      | refine apNS rfl rfl rfl rfl rfl rfl rfl rfl rfl rfl rfl ?_ ?_ ?_
      | refine apNL rfl rfl rfl rfl rfl rfl rfl rfl rfl rfl rfl rfl ?_ ?_ ?_
      | refine apDO rfl rfl rfl rfl rfl rfl rfl rfl rfl rfl rfl rfl rfl rfl ?_ ?_ ?_
      | refine apDN rfl rfl rfl rfl rfl rfl rfl rfl rfl rfl rfl rfl rfl rfl ?_ ?_ ?_
      | refine op_apMk _ rfl rfl rfl rfl rfl rfl rfl rfl rfl rfl rfl rfl rfl ?_ ?_ ?_ ?_
      | refine apDS rfl rfl rfl rfl rfl rfl rfl rfl rfl rfl rfl ?_ ?_ ?_)
    | (refine gate 6 rfl ?_; refine mkS rfl rfl rfl rfl rfl rfl rfl rfl rfl rfl rfl rfl rfl ?_ ?_ ?_ ?_)
    | (refine gate 6 rfl ?_; refine op_makeD _ rfl rfl rfl rfl rfl rfl rfl rfl rfl rfl rfl rfl rfl ?_ ?_ ?_ ?_)
    | (refine gate 0 rfl ?_; refine op_storeD rfl rfl rfl rfl rfl rfl rfl rfl rfl rfl ?_)
    | (refine gate 3 rfl ?_; refine op_capN rfl rfl rfl rfl rfl ?_)
    | (refine gate 3 rfl ?_; refine op_copy rfl rfl rfl rfl rfl rfl rfl rfl rfl rfl rfl ?_)
    | (refine gate 8 rfl ?_; refine op_mkFn rfl rfl rfl rfl ?_)
    | (refine gate 7 rfl ?_; refine op_nil rfl rfl rfl rfl rfl rfl (fun b hb => ?_))
    | (refine inW ?_; first
      | refine W_seq ?_
      | refine W_region ?_
      | refine W_drawN (by decide +kernel) ?_
      | refine W_block ?_
      | refine W_skip ?_
      | refine W_exit ?_
      | refine W_ret ?_
      | refine W_condT rfl rfl ?_
      | refine W_condF rfl rfl ?_
      | (refine W_condB rfl ?_ ?_ <;> intro hq <;> try (exfalso; (simp_all) <;> omega)))
    | (refine inE ?_; first
      | refine end_d rfl rfl rfl rfl ?_ ?_
      | refine end_o rfl rfl rfl rfl ?_ ?_
      | refine end_of rfl rfl rfl ?_ ?_)
    | refine rsOne ?_
    | refine msPd rfl ?_
    | refine msPn ?_
    | refine msPo rfl ?_
    | refine And.intro ?_ ?_
    | (show List.length _ ≠ 1; simp)
    | (show (_ : Int) ≤ _; first | omega | (simp [IntKind.bits, dflt]; done) | (simp [IntKind.bits, dflt]; omega) | (simp at *; omega))
    | (show (_ : Int) < _; first | omega | (simp [IntKind.bits, dflt]; done) | (simp [IntKind.bits, dflt]; omega) | (simp at *; omega))
    | (show (_ : Nat) ≤ _; first | omega | (unfold maxLen; omega) | (simp [IntKind.bits, dflt]; done) | (simp [IntKind.bits, dflt]; omega) | (simp at *; omega))
    | rfl)
end Go.LX
