/- A part of the proof of the statement in the row text. -/
import Derived.Test.YtbebnlhgnbnjoaaLxS5
set_option linter.unusedVariables false
set_option linter.unusedSimpArgs false
namespace Go.LX
open Go.Proofs
attribute [local irreducible] W WO OpW RW EndQ
/-- c times v, and what stood behind. -/
def rp (v : Int) (n c : Nat) : List Int := List.replicate c v ++ List.replicate (n - c) 0
theorem rp_len {v : Int} {n c : Nat} (h : c ≤ n) : (rp v n c).length = n := by simp [rp]; omega
theorem rp_step {v : Int} {n c k : Nat} (h : c ≤ n) (hk : k = min c (n - c)) : (rp v n c).take c ++ ((rp v n c).take c).take k ++ (rp v n c).drop (c + k) = rp v n (c + k) := by
  unfold rp
  have e1 : (List.replicate c v ++ List.replicate (n - c) (0 : Int)).take c = List.replicate c v := by simp
  have e2 : (List.replicate c v ++ List.replicate (n - c) (0 : Int)).drop (c + k) = List.replicate (n - (c + k)) 0 := by
    rw [List.drop_append, List.drop_eq_nil_of_le (by simp)]; simp; omega
  rw [e1, e2, List.take_replicate, Nat.min_eq_left (by omega), List.replicate_append_replicate]
set_option maxHeartbeats 4000000 in
set_option maxRecDepth 20000 in
theorem repeat_ok (v : Int) (n : Nat) (h : n ≤ 400) : FnC Try.prog 55 [aIs [v], aI n] [aX, aX] (.one (.own 3 (.i .i64) false (List.replicate n v))) := by
  refine FnC_of (fn := Try.f55) Try.func55 rfl rfl rfl ?_
  repeat' (first
    | exact trivial
    | (refine inWO ?_; first
      | refine WO_runE (nw := true) rfl rfl ?_ ?_
      | refine WO_runG (nw := true) rfl rfl rfl rfl rfl ?_ ?_
      | refine WO_run1 (nw := true) rfl rfl ?_ ?_
      | refine WO_cons rfl ?_
      | refine WO_gT rfl rfl rfl rfl rfl ?_
      | (refine WO_split rfl rfl rfl rfl ?_ ?_ <;> intro hq <;> try (exfalso; (simp_all) <;> omega))
      | refine WO_nil ?_)
    | (refine inRW ?_; first
      | refine RW_runE (nw := true) rfl rfl (fun _ _ => rfl) rfl ?_ ?_
      | refine RW_runG (nw := true) rfl rfl rfl rfl rfl (fun _ _ => rfl) rfl ?_ ?_
      | refine RW_op (us := ?_) (ub := ?_) (fp := ?_) rfl (fun s0 b0 => ?_) ?_ ?_
      | refine RW_opT (us := ?_) (ub := ?_) (fp := ?_) rfl rfl rfl rfl (fun s0 b0 => ?_) ?_ ?_
      | (refine RW_split rfl rfl rfl ?_ ?_ <;> intro hq <;> try (exfalso; (simp_all) <;> omega))
      | refine RW_nil ?_ (by decide +kernel))
    | (refine gate 1 rfl ?_; first
      | refine callD false (mul_ok _ ?_) rfl rfl rfl rfl (by repeat' (first | exact trivial | refine And.intro ?_ ?_ | rfl)) rfl rfl ?_)
    | (refine gate 5 rfl ?_; first
      | refine litR (len := 0) rfl rfl rfl rfl rfl rfl rfl rfl ?_
      | refine litW rfl rfl rfl rfl rfl rfl ?_)
    | (refine gate 2 rfl ?_; first
      | refine apOS rfl rfl rfl rfl rfl rfl rfl rfl rfl rfl rfl ?_ ?_ ?_
      | refine apOL rfl rfl rfl rfl rfl rfl rfl rfl rfl rfl rfl rfl ?_ ?_ ?_
      | refine apNS rfl rfl rfl rfl rfl rfl rfl rfl rfl rfl rfl ?_ ?_ ?_
      | refine apNL rfl rfl rfl rfl rfl rfl rfl rfl rfl rfl rfl rfl ?_ ?_ ?_)
    | (refine gate 6 rfl ?_; refine mkS rfl rfl rfl rfl rfl rfl rfl rfl rfl rfl rfl rfl rfl ?_ ?_ ?_ ?_)
    | (refine gate 3 rfl ?_; refine op_copy rfl rfl rfl rfl rfl rfl rfl rfl rfl rfl rfl ?_)
    | (refine gate 7 rfl ?_; refine op_nil rfl rfl rfl rfl rfl rfl (fun b hb => ?_))
    | (refine inW ?_; first
      | refine W_seq ?_
      | refine W_region ?_
      | refine W_drawN (by decide +kernel) ?_
      | refine W_block ?_
      | refine W_skip ?_
      | refine W_exit ?_
      | refine W_ret ?_
      | refine W_condT rfl rfl ?_
      | refine W_condF rfl rfl ?_
      | (refine W_condB rfl ?_ ?_ <;> intro hq <;> try (exfalso; (simp_all) <;> omega)))
    | (refine inE ?_; first
      | refine end_d rfl rfl rfl rfl ?_ ?_
      | refine end_o rfl rfl rfl rfl ?_ ?_
      | refine end_of rfl rfl rfl ?_ ?_)
    | refine rsOne ?_
    | refine msPd rfl ?_
    | refine msPn ?_
    | refine msPo rfl ?_
    | refine And.intro ?_ ?_
    | (show List.length _ ≠ 1; simp)
    | (show (_ : Int) ≤ _; first | omega | (simp [IntKind.bits, dflt]; done) | (simp [IntKind.bits, dflt]; omega) | (simp at *; omega))
    | (show (_ : Int) < _; first | omega | (simp [IntKind.bits, dflt]; done) | (simp [IntKind.bits, dflt]; omega) | (simp at *; omega))
    | (show (_ : Nat) ≤ _; first | omega | (simp [IntKind.bits, dflt]; done) | (simp [IntKind.bits, dflt]; omega) | (simp at *; omega))
    | rfl)
  refine W_loopT (fun c : Nat => St.tmpl 48 [(7, .one (.rf 31000 .ar)), (8, .one (.d (.i .i64) (c : Int)))] [(31000, .rows 3 (.i .i64) false (rp v n c))]) (fun c => c ≤ n ∧ (0 < n → 0 < c)) (fun c => n - c) (min 1 n) ⟨by omega, by omega⟩ ?_ ?_
  · refine Wk_tmpl [] ⟨rfl, ?_, trivial⟩ ⟨?_, trivial⟩ rfl rfl
    · refine congrArg (fun r => SV.one (C.d (Ty.i IntKind.i64) r)) ?_
      show ((min 1 (List.replicate (n : Int).toNat (0 : Int)).length : Nat) : Int) = _
      simp
    · refine congrArg (fun r => some (Ob.rows 3 (.i .i64) false r)) ?_
      show List.take 0 (List.replicate (n : Int).toNat (0 : Int)) ++ List.take (min 1 (List.replicate (n : Int).toNat (0 : Int)).length) [v] ++ List.drop (0 + min 1 (List.replicate (n : Int).toNat (0 : Int)).length) (List.replicate (n : Int).toNat (0 : Int)) = _
      cases n with
      | zero => simp [rp]
      | succ n => simp [rp]
  · rintro c ⟨hc, hc0⟩
    have hlen := rp_len (v := v) hc
    have hm : min (List.take (cutH (some (c : Int)) (rp v n c).length - cutL none) (List.drop (cutL none) (rp v n c))).length (cutH none (rp v n c).length - cutL (some (c : Int))) = min c (n - c) := by
      simp [cutH, cutL, hlen]
    repeat' (first
      | exact trivial
      | (refine inWO ?_; first
        | refine WO_runE (nw := true) rfl rfl ?_ ?_
        | refine WO_runG (nw := true) rfl rfl rfl rfl rfl ?_ ?_
        | refine WO_run1 (nw := true) rfl rfl ?_ ?_
        | refine WO_cons rfl ?_
        | refine WO_gT rfl rfl rfl rfl rfl ?_
        | (refine WO_split rfl rfl rfl rfl ?_ ?_ <;> intro hq <;> try (exfalso; (simp_all) <;> omega))
        | refine WO_nil ?_)
      | (refine inRW ?_; first
        | refine RW_runE (nw := true) rfl rfl (fun _ _ => rfl) rfl ?_ ?_
        | refine RW_runG (nw := true) rfl rfl rfl rfl rfl (fun _ _ => rfl) rfl ?_ ?_
        | refine RW_op (us := ?_) (ub := ?_) (fp := ?_) rfl (fun s0 b0 => ?_) ?_ ?_
        | refine RW_opT (us := ?_) (ub := ?_) (fp := ?_) rfl rfl rfl rfl (fun s0 b0 => ?_) ?_ ?_
        | (refine RW_split rfl rfl rfl ?_ ?_ <;> intro hq <;> try (exfalso; (simp_all) <;> omega))
        | refine RW_nil ?_ (by decide +kernel))
      | (refine gate 5 rfl ?_; first
        | refine litR (len := 0) rfl rfl rfl rfl rfl rfl rfl rfl ?_
        | refine litW rfl rfl rfl rfl rfl rfl ?_)
      | (refine gate 2 rfl ?_; first
        | refine apOS rfl rfl rfl rfl rfl rfl rfl rfl rfl rfl rfl ?_ ?_ ?_
        | refine apOL rfl rfl rfl rfl rfl rfl rfl rfl rfl rfl rfl rfl ?_ ?_ ?_
        | refine apNS rfl rfl rfl rfl rfl rfl rfl rfl rfl rfl rfl ?_ ?_ ?_
        | refine apNL rfl rfl rfl rfl rfl rfl rfl rfl rfl rfl rfl rfl ?_ ?_ ?_)
      | (refine gate 6 rfl ?_; refine mkS rfl rfl rfl rfl rfl rfl rfl rfl rfl rfl rfl rfl rfl ?_ ?_ ?_ ?_)
      | (refine gate 3 rfl ?_; refine op_copy rfl rfl rfl rfl rfl rfl rfl rfl rfl rfl rfl ?_)
      | (refine gate 7 rfl ?_; refine op_nil rfl rfl rfl rfl rfl rfl (fun b hb => ?_))
      | (refine inW ?_; first
        | refine W_seq ?_
        | refine W_region ?_
        | refine W_drawN (by decide +kernel) ?_
        | refine W_block ?_
        | refine W_skip ?_
        | refine W_exit ?_
        | refine W_ret ?_
        | refine W_condT rfl rfl ?_
        | refine W_condF rfl rfl ?_
        | (refine W_condB rfl ?_ ?_ <;> intro hq <;> try (exfalso; (simp_all) <;> omega)))
      | (refine inE ?_; first
        | refine end_d rfl rfl rfl rfl ?_ ?_
        | refine end_o rfl rfl rfl rfl ?_ ?_
        | refine end_of rfl rfl rfl ?_ ?_)
      | refine rsOne ?_
      | refine msPd rfl ?_
      | refine msPn ?_
      | refine msPo rfl ?_
      | refine And.intro ?_ ?_
      | (show List.length _ ≠ 1; simp)
      | (show (_ : Int) ≤ _; first | omega | (simp [IntKind.bits, dflt]; done) | (simp [IntKind.bits, dflt]; omega) | (simp at *; omega))
      | (show (_ : Int) < _; first | omega | (simp [IntKind.bits, dflt]; done) | (simp [IntKind.bits, dflt]; omega) | (simp at *; omega))
      | (show (_ : Nat) ≤ _; first | omega | (simp [IntKind.bits, dflt]; done) | (simp [IntKind.bits, dflt]; omega) | (simp at *; omega))
      | rfl)
    · have hlt : c < n := by simp [hlen] at hq; omega
      refine ⟨c + min c (n - c), by omega, by omega, Wk_tmpl [] ⟨rfl, ?_, trivial⟩ ⟨?_, trivial⟩ rfl rfl⟩
      · refine congrArg (fun r => SV.one (C.d (Ty.i IntKind.i64) r)) ?_
        rw [hm, Int.natCast_add]
      · refine congrArg (fun r => some (Ob.rows 3 (.i .i64) false r)) ?_
        rw [hm]
        exact rp_step (k := min c (n - c)) hc rfl
    · have e : c = n := by simp [hlen] at hq; omega
      subst e
      simp [rp]
theorem repeatI_ok (v n : Int) (h : 0 ≤ n ∧ n ≤ 400) : FnC Try.prog 55 [aIs [v], aI n] [aX, aX] (.one (.own 3 (.i .i64) false (List.replicate n.toNat v))) := by
  have := repeat_ok v n.toNat (by omega)
  rwa [show ((n.toNat : Nat) : Int) = n by omega] at this
end Go.LX
