/- A part of the proof of the statement in the row text. -/
import Derived.Test.YtbebnlhgnbnjoaaLxS3
set_option linter.unusedVariables false
set_option linter.unusedSimpArgs false
namespace Go.LX
open Go.Proofs
attribute [local irreducible] W WO OpW RW EndQ

/-- Runs whose numbers count on from n. -/
def mr (n : Int) (k : Nat) : List (Int × Int) := (List.range k).map fun j : Nat => (n + 2 * (j : Int), n + 2 * (j : Int) + 1)
theorem mr_len {n : Int} {k : Nat} : (mr n k).length = k := by simp [mr]
theorem mr_set {n : Int} {xs : List (Int × Int)} {i : Nat} (h : i < xs.length) : (mr n i ++ xs.drop i).set i (n + 2 * (i : Int), n + 2 * (i : Int) + 1) = mr n (i + 1) ++ xs.drop (i + 1) := by
  rw [List.set_append_right _ _ (by simp [mr_len]), mr_len, Nat.sub_self, List.drop_eq_getElem_cons h, List.set_cons_zero]
  simp [mr, List.range_succ]
theorem set_two {L : List (Int × Int)} {i : Nat} {a b : Int} {d : Int × Int} (h : i < L.length) : (L.set i (a, (L.getD i d).2)).set i (((L.set i (a, (L.getD i d).2)).getD i d).1, b) = L.set i (a, b) := by
  simp [h]
set_option maxHeartbeats 2000000 in
set_option maxRecDepth 20000 in
theorem markruns_ok (xs : List TRun.T) (n : Int) (h0 : 0 ≤ n ∧ n ≤ 1000000000) (hl : List.length (α := TRun.T) xs ≤ 16777216) : FnC Try.prog 15 [.c (.own 67 TRun false xs), aI n] [.c (.own 67 TRun false (mr n (List.length (α := TRun.T) xs))), aX] (.one (sI (n + 2 * (List.length (α := TRun.T) xs : Int)))) := by
  refine FnC_of (fn := Try.f15) Try.func15 rfl rfl rfl ?_
  repeat' (first
    | exact trivial
    | (refine inWO ?_; first
      | refine WO_runE (nw := true) rfl rfl ?_ ?_
      | refine WO_runG (nw := true) rfl rfl rfl rfl rfl ?_ ?_
      | refine WO_run1 (nw := true) rfl rfl ?_ ?_
      | refine WO_cons rfl ?_
      | refine WO_gT rfl rfl rfl rfl rfl ?_
      | (refine WO_split rfl rfl rfl rfl ?_ ?_ <;> intro hq <;> try (exfalso; (simp_all) <;> omega))
      | refine WO_nil ?_)
    | (refine inRW ?_; first
      | refine RW_runE (nw := true) rfl rfl (fun _ _ => rfl) rfl ?_ ?_
      | refine RW_runG (nw := true) rfl rfl rfl rfl rfl (fun _ _ => rfl) rfl ?_ ?_
      | refine RW_op (us := ?_) (ub := ?_) (fp := ?_) rfl (fun s0 b0 => ?_) ?_ ?_
      | refine RW_opT (us := ?_) (ub := ?_) (fp := ?_) rfl rfl rfl rfl (fun s0 b0 => ?_) ?_ ?_
      | (refine RW_split rfl rfl rfl ?_ ?_ <;> intro hq <;> try (exfalso; (simp_all) <;> omega))
      | refine RW_nil ?_ (by decide +kernel))
    | (refine gate 5 rfl ?_; first
      | refine litR (len := 0) rfl rfl rfl rfl rfl rfl rfl rfl ?_
      | refine litW rfl rfl rfl rfl rfl rfl ?_)
    | (refine gate 2 rfl ?_; first
      | refine apOS rfl rfl rfl rfl rfl rfl rfl rfl rfl rfl rfl ?_ ?_ ?_
      | refine apOL rfl rfl rfl rfl rfl rfl rfl rfl rfl rfl rfl rfl ?_ ?_ ?_
      | refine apNS rfl rfl rfl rfl rfl rfl rfl rfl rfl rfl rfl ?_ ?_ ?_
      | refine apNL rfl rfl rfl rfl rfl rfl rfl rfl rfl rfl rfl rfl ?_ ?_ ?_)
    | (refine gate 6 rfl ?_; refine mkS rfl rfl rfl rfl rfl rfl rfl rfl rfl rfl rfl rfl rfl ?_ ?_ ?_ ?_)
    | (refine gate 7 rfl ?_; refine op_nil rfl rfl rfl rfl rfl rfl (fun b hb => ?_))
    | (refine inW ?_; first
      | refine W_seq ?_
      | refine W_region ?_
      | refine W_drawN (by decide +kernel) ?_
      | refine W_block ?_
      | refine W_skip ?_
      | refine W_exit ?_
      | refine W_ret ?_
      | refine W_condT rfl rfl ?_
      | refine W_condF rfl rfl ?_
      | (refine W_condB rfl ?_ ?_ <;> intro hq <;> try (exfalso; (simp_all) <;> omega)))
    | (refine inE ?_; first
      | refine end_d rfl rfl rfl rfl ?_ ?_
      | refine end_o rfl rfl rfl rfl ?_ ?_
      | refine end_of rfl rfl rfl ?_ ?_)
    | refine And.intro ?_ ?_
    | (show List.length _ ≠ 1; simp)
    | (show (_ : Int) ≤ _; first | omega | (simp [IntKind.bits, dflt]; omega) | (simp at *; omega))
    | (show (_ : Int) < _; first | omega | (simp [IntKind.bits, dflt]; omega) | (simp at *; omega))
    | (show (_ : Nat) ≤ _; first | omega | (simp [IntKind.bits, dflt]; omega) | (simp at *; omega))
    | rfl)
  refine W_loopT (fun i : Nat => St.tmpl 27 [(0, .one (.rf 1 .ar)), (1, .one (.d (.i .i64) (n + 2 * (i : Int)))), (5, .one (.d (.i .i64) (i : Int)))] [(1, .rows 67 TRun false (mr n i ++ List.drop (α := TRun.T) i xs))]) (fun i => i ≤ List.length (α := TRun.T) xs) (fun i => List.length (α := TRun.T) xs - i) 0 (Nat.zero_le _) ?_ ?_
  · refine Wk_tmpl [] ⟨rfl, ?_, rfl, trivial⟩ ⟨?_, trivial⟩ rfl rfl
    · exact congrArg (fun r => SV.one (.d (.i .i64) r)) (by simp : n = n + 2 * ((0 : Nat) : Int))
    · exact congrArg (fun r => some (Ob.rows 67 TRun false r)) (by simp [mr])
  · intro i hi
    have hlen : List.length (α := TRun.T) (mr n i ++ List.drop (α := TRun.T) i xs) = List.length (α := TRun.T) xs := by simp [mr_len]; omega
    repeat' (first
      | exact trivial
      | (refine inWO ?_; first
        | refine WO_runE (nw := true) rfl rfl ?_ ?_
        | refine WO_runG (nw := true) rfl rfl rfl rfl rfl ?_ ?_
        | refine WO_run1 (nw := true) rfl rfl ?_ ?_
        | refine WO_cons rfl ?_
        | refine WO_gT rfl rfl rfl rfl rfl ?_
        | (refine WO_split rfl rfl rfl rfl ?_ ?_ <;> intro hq <;> try (exfalso; (simp_all) <;> omega))
        | refine WO_nil ?_)
      | (refine inRW ?_; first
        | refine RW_runE (nw := true) rfl rfl (fun _ _ => rfl) rfl ?_ ?_
        | refine RW_runG (nw := true) rfl rfl rfl rfl rfl (fun _ _ => rfl) rfl ?_ ?_
        | refine RW_op (us := ?_) (ub := ?_) (fp := ?_) rfl (fun s0 b0 => ?_) ?_ ?_
        | refine RW_opT (us := ?_) (ub := ?_) (fp := ?_) rfl rfl rfl rfl (fun s0 b0 => ?_) ?_ ?_
        | (refine RW_split rfl rfl rfl ?_ ?_ <;> intro hq <;> try (exfalso; (simp_all) <;> omega))
        | refine RW_nil ?_ (by decide +kernel))
      | (refine gate 5 rfl ?_; first
        | refine litR (len := 0) rfl rfl rfl rfl rfl rfl rfl rfl ?_
        | refine litW rfl rfl rfl rfl rfl rfl ?_)
      | (refine gate 2 rfl ?_; first
        | refine apOS rfl rfl rfl rfl rfl rfl rfl rfl rfl rfl rfl ?_ ?_ ?_
        | refine apOL rfl rfl rfl rfl rfl rfl rfl rfl rfl rfl rfl rfl ?_ ?_ ?_
        | refine apNS rfl rfl rfl rfl rfl rfl rfl rfl rfl rfl rfl ?_ ?_ ?_
        | refine apNL rfl rfl rfl rfl rfl rfl rfl rfl rfl rfl rfl rfl ?_ ?_ ?_)
      | (refine gate 6 rfl ?_; refine mkS rfl rfl rfl rfl rfl rfl rfl rfl rfl rfl rfl rfl rfl ?_ ?_ ?_ ?_)
      | (refine gate 7 rfl ?_; refine op_nil rfl rfl rfl rfl rfl rfl (fun b hb => ?_))
      | (refine inW ?_; first
        | refine W_seq ?_
        | refine W_region ?_
        | refine W_drawN (by decide +kernel) ?_
        | refine W_block ?_
        | refine W_skip ?_
        | refine W_exit ?_
        | refine W_ret ?_
        | refine W_condT rfl rfl ?_
        | refine W_condF rfl rfl ?_
        | (refine W_condB rfl ?_ ?_ <;> intro hq <;> try (exfalso; (simp_all) <;> omega)))
      | (refine inE ?_; first
        | refine end_d rfl rfl rfl rfl ?_ ?_
        | refine end_o rfl rfl rfl rfl ?_ ?_
        | refine end_of rfl rfl rfl ?_ ?_)
      | refine And.intro ?_ ?_
      | (show List.length _ ≠ 1; simp)
      | (show (_ : Int) ≤ _; first | omega | (simp [IntKind.bits, dflt]; omega) | (simp at *; omega))
      | (show (_ : Int) < _; first | omega | (simp [IntKind.bits, dflt]; omega) | (simp at *; omega))
      | (show (_ : Nat) ≤ _; first | omega | (simp [IntKind.bits, dflt]; omega) | (simp at *; omega))
      | rfl)
    · have hlt : i < List.length (α := TRun.T) xs := by simp only [decide_eq_true_eq] at hq; omega
      have hlt2 : i < List.length (α := TRun.T) (mr n i ++ List.drop (α := TRun.T) i xs) := by rw [hlen]; exact hlt
      refine ⟨i + 1, by omega, by omega, Wk_tmpl [] ⟨rfl, ?_, rfl, trivial⟩ ⟨congrArg (fun r => some (Ob.rows 67 TRun false r)) ((set_two (d := dflt TRun) hlt2).trans (mr_set hlt)), trivial⟩ rfl rfl⟩
      exact congrArg (fun r => SV.one (.d (.i .i64) r)) (by omega : n + 2 * (i : Int) + 1 + 1 = n + 2 * ((i + 1 : Nat) : Int))
    · have : i = List.length (α := TRun.T) xs := by simp only [decide_eq_false_iff_not] at hq; omega
      subst this
      exact congrArg (fun r => some (Ob.rows 67 TRun false r)) (by simp)
    · have e : i = List.length (α := TRun.T) xs := by simp only [decide_eq_false_iff_not] at hq; omega
      rw [e]
end Go.LX
