/- A part of the proof of the statement in the row text. -/
import Derived.Test.YtojaiockbpcilaaDoorLzD3
set_option linter.unusedVariables false
set_option linter.unusedSimpArgs false
namespace Go.LX
open Go.Proofs
attribute [local irreducible] W WO OpW RW EndQ
theorem CuN.next {a s a' s' k : Int} (h : CuN a s a' s' k) (ha : 0 ≤ a) (hb : a + k ≤ 1000000000) : CuB a' s' := CuB.next h ha hb
open Classical in
/-- A rune that is drawn, and the cursor behind it. -/
noncomputable def ruM (code : List UInt8) (a s : Int) : Int × Int × Int := if h : code.length ≤ 16777216 ∧ CuB a s ∧ a ≤ 999999000 then (rune_ex code a s h.1 h.2.1 h.2.2).choose else (0, a, s)
theorem ruM_ok (code : List UInt8) (a s : Int) (hl : code.length ≤ 16777216) (hc : CuB a s) (ha : a ≤ 999999000) : (0 ≤ (ruM code a s).1 ∧ (ruM code a s).1 ≤ 1114111) ∧ CuN a s (ruM code a s).2.1 (ruM code a s).2.2 3 ∧ FnC Tryd.prog 85 [aCur code a s] [aCur code (ruM code a s).2.1 (ruM code a s).2.2] (.one (sI (ruM code a s).1)) := by
  unfold ruM
  rw [dif_pos ⟨hl, hc, ha⟩]
  exact (rune_ex code a s hl hc ha).choose_spec
def rbM (n : Int) : List UInt8 := rbE n
theorem rbM_ok (n : Int) (h : 0 ≤ n ∧ n ≤ 1114111) : (rbM n).length ≤ 4 ∧ FnC Tryd.prog 84 [aI n] [aX] (.one (oBy (rbM n))) := ⟨rbE_len n, runebytes_ok n h⟩
/-- Runes that are drawn one behind the other. -/
noncomputable def txM (code : List UInt8) : Nat → List UInt8 → Int → Int → List UInt8 × Int × Int
  | 0, out, a, s => (out, a, s)
  | k + 1, out, a, s => txM code k (out ++ rbM (ruM code a s).1) (ruM code a s).2.1 (ruM code a s).2.2
theorem txM_ok (code : List UInt8) (hl : code.length ≤ 16777216) : ∀ (k : Nat) (out : List UInt8) (a s : Int), CuB a s → a + 3 * k ≤ 999999000 → CuN a s (txM code k out a s).2.1 (txM code k out a s).2.2 (3 * k)
  | 0, out, a, s, hc, _ => ⟨by simp [txM], by simp [txM], hc.s0, hc.s1⟩
  | k + 1, out, a, s, hc, ha => by
    obtain ⟨h1, h2, _⟩ := ruM_ok code a s hl hc (by omega)
    have h3 := h2.a1
    have := txM_ok code hl k (out ++ rbM (ruM code a s).1) (ruM code a s).2.1 (ruM code a s).2.2 (h2.next hc.a0 (by omega)) (by omega)
    exact (h2.trans this).mono (by omega)
set_option maxHeartbeats 4000000 in
set_option maxRecDepth 20000 in
theorem text_ex (code : List UInt8) (a s n : Int) (hl : code.length ≤ 16777216) (hc : CuB a s) (ha : a ≤ 900000000) (hn : 1 ≤ n ∧ n ≤ 1000) : ∃ r : List UInt8 × Int × Int, ((r.1.length : Int) ≤ n) ∧ CuN a s r.2.1 r.2.2 (1 + 3 * n) ∧ FnC Tryd.prog 47 [aCur code a s, aI n] [aCur code r.2.1 r.2.2, aX] (.one (oBy r.1)) := by
  obtain ⟨p, b, n1, hp⟩ := size_ex code a s n hl hc ⟨hn.1, by omega⟩
  have hc1 : CuB p.2.1 p.2.2 := n1.next hc.a0 (by omega)
  obtain ⟨k, hk⟩ := Int.eq_ofNat_of_zero_le b.1
  have b2 := b.2
  rw [hk] at b2
  have n1' := n1.a1
  have n2 := txM_ok code hl k [] p.2.1 p.2.2 hc1 (by omega)
  refine ⟨(if n < (txM code k [] p.2.1 p.2.2).1.length then [] else (txM code k [] p.2.1 p.2.2).1, (txM code k [] p.2.1 p.2.2).2), ?_, (n1.trans n2).mono (by omega), ?_⟩
  · show ((List.length (if n < (txM code k [] p.2.1 p.2.2).1.length then [] else (txM code k [] p.2.1 p.2.2).1) : Nat) : Int) ≤ n
    split
    · simp; omega
    · omega
  · refine FnC_of (fn := Tryd.f47) Tryd.func47 rfl rfl rfl ?_
    repeat' (first
      | exact trivial
      | (refine inWO ?_; first
        | refine WO_runE (nw := true) rfl rfl ?_ ?_
        | refine WO_runG (nw := true) rfl rfl rfl rfl rfl ?_ ?_
        | refine WO_runU (nw := true) rfl rfl rfl rfl rfl ?_ ?_
        | refine WO_run1 (nw := true) rfl rfl ?_ ?_
        | refine WO_cons rfl ?_
        | refine WO_gT rfl rfl rfl rfl rfl ?_
        | (refine WO_split rfl rfl rfl rfl ?_ ?_ <;> intro hq <;> try (exfalso; (simp_all) <;> omega))
        | refine WO_nil ?_)
      | (refine inRW ?_; first
        | refine RW_runE (nw := true) rfl rfl (fun _ _ => rfl) rfl ?_ ?_
        | refine RW_runG (nw := true) rfl rfl rfl rfl rfl (fun _ _ => rfl) rfl ?_ ?_
        | refine RW_runU (nw := true) rfl rfl rfl rfl rfl (fun _ _ => rfl) rfl ?_ ?_
        | refine RW_op (us := ?_) (ub := ?_) (fp := ?_) rfl (fun s0 b0 => ?_) ?_ ?_
        | refine RW_opT (us := ?_) (ub := ?_) (fp := ?_) rfl rfl rfl rfl (fun s0 b0 => ?_) ?_ ?_
        | (refine RW_split rfl rfl rfl ?_ ?_ <;> intro hq <;> try (exfalso; (simp_all) <;> omega))
        | refine RW_nil ?_ (by first | decide +kernel | kernel_rfl))
      | (refine gate 1 rfl ?_; first
        | refine callB (hp) rfl rfl rfl rfl rfl rfl rfl rfl rfl ⟨rfl, trivial⟩ ⟨rfl, rfl, rfl, trivial⟩ rfl rfl rfl rfl rfl rfl rfl rfl ?_)
      | (refine gate 5 rfl ?_; first
        | refine litR rfl rfl rfl rfl rfl rfl rfl rfl ?_
        | refine litW rfl rfl rfl rfl rfl rfl ?_)
      | (refine gate 2 rfl ?_; first
        | refine apOS rfl rfl rfl rfl rfl rfl rfl rfl rfl rfl rfl ?_ ?_ ?_
        | refine apOL rfl rfl rfl rfl rfl rfl rfl rfl rfl rfl rfl rfl ?_ ?_ ?_
        | refine apNS rfl rfl rfl rfl rfl rfl rfl rfl rfl rfl rfl ?_ ?_ ?_
        | refine apNL rfl rfl rfl rfl rfl rfl rfl rfl rfl rfl rfl rfl ?_ ?_ ?_
        | refine apDO rfl rfl rfl rfl rfl rfl rfl rfl rfl rfl rfl rfl rfl rfl ?_ ?_ ?_
        | refine apDN rfl rfl rfl rfl rfl rfl rfl rfl rfl rfl rfl rfl rfl rfl ?_ ?_ ?_
        | refine op_apMk _ rfl rfl rfl rfl rfl rfl rfl rfl rfl rfl rfl rfl rfl ?_ ?_ ?_ ?_
        | refine apDS rfl rfl rfl rfl rfl rfl rfl rfl rfl rfl rfl ?_ ?_ ?_)
      | (refine gate 6 rfl ?_; refine mkS rfl rfl rfl rfl rfl rfl rfl rfl rfl rfl rfl rfl rfl ?_ ?_ ?_ ?_)
      | (refine gate 6 rfl ?_; refine op_makeD _ rfl rfl rfl rfl rfl rfl rfl rfl rfl rfl rfl rfl rfl ?_ ?_ ?_ ?_)
      | (refine gate 0 rfl ?_; refine op_storeD rfl rfl rfl rfl rfl rfl rfl rfl rfl rfl ?_)
      | (refine gate 3 rfl ?_; refine op_capN rfl rfl rfl rfl rfl ?_)
      | (refine gate 3 rfl ?_; refine op_copy rfl rfl rfl rfl rfl rfl rfl rfl rfl rfl rfl ?_)
      | (refine gate 8 rfl ?_; refine op_mkFn rfl rfl rfl rfl ?_)
      | (refine gate 7 rfl ?_; refine op_nil rfl rfl rfl rfl rfl rfl (fun b hb => ?_))
      | (refine inW ?_; first
        | refine W_seq ?_
        | refine W_region ?_
        | refine W_drawN (by decide +kernel) ?_
        | refine W_block ?_
        | refine W_skip ?_
        | refine W_exit ?_
        | refine W_ret ?_
        | refine W_condT rfl rfl ?_
        | refine W_condF rfl rfl ?_
        | (refine W_condB rfl ?_ ?_ <;> intro hq <;> try (exfalso; (simp_all) <;> omega)))
      | (refine inE ?_; first
        | refine end_d rfl rfl rfl rfl ?_ ?_
        | refine end_o rfl rfl rfl rfl ?_ ?_
        | refine end_of rfl rfl rfl ?_ ?_)
      | refine rsOne ?_
      | refine msPd rfl ?_
      | refine msPn ?_
      | refine msPo rfl ?_
      | refine And.intro ?_ ?_
      | (show List.length _ ≠ 1; simp)
      | (show (_ : Int) ≤ _; first | omega | (simp [IntKind.bits, dflt]; done) | (simp [IntKind.bits, dflt]; omega) | (simp at *; omega))
      | (show (_ : Int) < _; first | omega | (simp [IntKind.bits, dflt]; done) | (simp [IntKind.bits, dflt]; omega) | (simp at *; omega))
      | (show (_ : Nat) ≤ _; first | omega | (unfold maxLen; omega) | (simp [IntKind.bits, dflt]; done) | (simp [IntKind.bits, dflt]; omega) | (simp at *; omega))
      | rfl)
    refine W_loopT (fun q : Nat × List UInt8 × Int × Int => St.tmpl 27 [(0, .one (.rf 0 (.pb 0))), (1, .one (.d (.i .i64) n)), (5, .one (.rf 8000 .ar)), (6, .one (.d (.i .i64) (q.1 : Int)))] [(0, .cells [.d (.sl .u8) code, .d (.i .i64) q.2.2.1, .d (.i .i64) q.2.2.2]), (8000, .rows 5 .u8 false q.2.1)]) (fun q => q.1 ≤ k ∧ q.2.1.length + 4 * q.1 ≤ 4 * k ∧ CuB q.2.2.1 q.2.2.2 ∧ q.2.2.1 + 3 * q.1 ≤ 950000000 ∧ txM code q.1 q.2.1 q.2.2.1 q.2.2.2 = txM code k [] p.2.1 p.2.2) (fun q => q.1) (k, [], p.2.1, p.2.2) ⟨Nat.le_refl _, by simp, hc1, by simp only; omega, rfl⟩ ?_ ?_
    · refine Wk_tmpl [] ⟨rfl, rfl, rfl, ?_, trivial⟩ ⟨rfl, rfl, trivial⟩ rfl rfl
      refine congrArg (fun r => SV.one (C.d (Ty.i IntKind.i64) r)) ?_
      exact hk
    · rintro ⟨j, out, a1, s1⟩ ⟨h1, h2, h3, h4, h5⟩
      simp only at h1 h2 h3 h4 h5
      obtain ⟨r1, r2, hr⟩ := ruM_ok code a1 s1 hl h3 (by omega)
      obtain ⟨t1, ht⟩ := rbM_ok (ruM code a1 s1).1 r1
      have r2' := r2.a1
      repeat' (first
        | exact trivial
        | (refine inWO ?_; first
          | (refine WO_cons rfl ?_; refine op_cut rfl rfl rfl rfl rfl rfl rfl rfl rfl ?_ ?_ ?_)
          | refine WO_runU (nw := true) rfl rfl rfl rfl rfl ?_ ?_
          | refine WO_run1 (nw := true) rfl rfl ?_ ?_
          | refine WO_cons rfl ?_
          | refine WO_gT rfl rfl rfl rfl rfl ?_
          | (refine WO_split rfl rfl rfl rfl ?_ ?_ <;> intro hq <;> try (exfalso; (simp_all) <;> omega))
          | refine WO_nil ?_)
        | (refine inRW ?_; first
          | refine RW_runE (nw := true) rfl rfl (fun _ _ => rfl) rfl ?_ ?_
          | refine RW_runG (nw := true) rfl rfl rfl rfl rfl (fun _ _ => rfl) rfl ?_ ?_
          | refine RW_runU (nw := true) rfl rfl rfl rfl rfl (fun _ _ => rfl) rfl ?_ ?_
          | refine RW_op (us := ?_) (ub := ?_) (fp := ?_) rfl (fun s0 b0 => ?_) ?_ ?_
          | refine RW_opT (us := ?_) (ub := ?_) (fp := ?_) rfl rfl rfl rfl (fun s0 b0 => ?_) ?_ ?_
          | (refine RW_split rfl rfl rfl ?_ ?_ <;> intro hq <;> try (exfalso; (simp_all) <;> omega))
          | refine RW_nil ?_ (by first | decide +kernel | kernel_rfl))
        | (refine gate 1 rfl ?_; first
          | refine callB (hr) rfl rfl rfl rfl rfl rfl rfl rfl rfl (by (repeat' (first | exact trivial | refine And.intro ?_ ?_ | rfl)); done) (by (repeat' (first | exact trivial | refine And.intro ?_ ?_ | rfl)); done) rfl rfl rfl rfl rfl rfl rfl rfl ?_
          | refine callD false (ht) rfl rfl rfl rfl (by (repeat' (first | exact trivial | refine And.intro ?_ ?_ | rfl)); done) rfl rfl ?_)
        | (refine gate 5 rfl ?_; first
          | refine litR rfl rfl rfl rfl rfl rfl rfl rfl ?_
          | refine litW rfl rfl rfl rfl rfl rfl ?_)
        | (refine gate 2 rfl ?_; first
          | refine apOS rfl rfl rfl rfl rfl rfl rfl rfl rfl rfl rfl ?_ ?_ ?_
          | refine apOL rfl rfl rfl rfl rfl rfl rfl rfl rfl rfl rfl rfl ?_ ?_ ?_
          | refine apNS rfl rfl rfl rfl rfl rfl rfl rfl rfl rfl rfl ?_ ?_ ?_
          | refine apNL rfl rfl rfl rfl rfl rfl rfl rfl rfl rfl rfl rfl ?_ ?_ ?_
          | refine apDO rfl rfl rfl rfl rfl rfl rfl rfl rfl rfl rfl rfl rfl rfl ?_ ?_ ?_
          | refine apDN rfl rfl rfl rfl rfl rfl rfl rfl rfl rfl rfl rfl rfl rfl ?_ ?_ ?_
          | refine op_apMk _ rfl rfl rfl rfl rfl rfl rfl rfl rfl rfl rfl rfl rfl ?_ ?_ ?_ ?_
          | refine apDS rfl rfl rfl rfl rfl rfl rfl rfl rfl rfl rfl ?_ ?_ ?_)
        | (refine gate 6 rfl ?_; refine mkS rfl rfl rfl rfl rfl rfl rfl rfl rfl rfl rfl rfl rfl ?_ ?_ ?_ ?_)
        | (refine gate 6 rfl ?_; refine op_makeD _ rfl rfl rfl rfl rfl rfl rfl rfl rfl rfl rfl rfl rfl ?_ ?_ ?_ ?_)
        | (refine gate 0 rfl ?_; refine op_storeD rfl rfl rfl rfl rfl rfl rfl rfl rfl rfl ?_)
        | (refine gate 3 rfl ?_; refine op_capN rfl rfl rfl rfl rfl ?_)
        | (refine gate 3 rfl ?_; refine op_copy rfl rfl rfl rfl rfl rfl rfl rfl rfl rfl rfl ?_)
        | (refine gate 8 rfl ?_; refine op_mkFn rfl rfl rfl rfl ?_)
        | (refine gate 7 rfl ?_; refine op_nil rfl rfl rfl rfl rfl rfl (fun b hb => ?_))
        | (refine inW ?_; first
          | refine W_seq ?_
          | refine W_region ?_
          | refine W_drawN (by decide +kernel) ?_
          | refine W_block ?_
          | refine W_skip ?_
          | refine W_exit ?_
          | refine W_ret ?_
          | refine W_condT rfl rfl ?_
          | refine W_condF rfl rfl ?_
          | (refine W_condB rfl ?_ ?_ <;> intro hq <;> try (exfalso; (simp_all) <;> omega)))
        | (refine inE ?_; first
          | refine end_d rfl rfl rfl rfl ?_ ?_
          | refine end_o rfl rfl rfl rfl ?_ ?_
          | refine end_of rfl rfl rfl ?_ ?_)
        | refine rsOne ?_
        | refine msPd rfl ?_
        | refine msPn ?_
        | refine msPo rfl ?_
        | refine And.intro ?_ ?_
        | (show List.length _ ≠ 1; simp)
        | (show (_ : Int) ≤ _; first | omega | (simp [IntKind.bits, dflt]; done) | (simp [IntKind.bits, dflt]; omega) | (simp at *; omega))
        | (show (_ : Int) < _; first | omega | (simp [IntKind.bits, dflt]; done) | (simp [IntKind.bits, dflt]; omega) | (simp at *; omega))
        | (show (_ : Nat) ≤ _; first | omega | (unfold maxLen; omega) | (simp [IntKind.bits, dflt]; done) | (simp [IntKind.bits, dflt]; omega) | (simp at *; omega))
        | rfl)
      · show out.length + (rbM (ruM code a1 s1).1).length ≤ maxLen
        unfold maxLen; omega
      · have hj : (0 : Int) < (j : Int) := of_decide_eq_true hq
        obtain ⟨m, rfl⟩ : ∃ m, j = m + 1 := ⟨j - 1, by omega⟩
        refine ⟨(m, out ++ rbM (ruM code a1 s1).1, (ruM code a1 s1).2.1, (ruM code a1 s1).2.2), Nat.lt_succ_self m, ⟨by simp only; omega, ?_, r2.next h3.a0 (by omega), by simp only; omega, h5⟩, Wk_tmpl [(8000, 20000)] ⟨rfl, rfl, rfl, ?_, trivial⟩ ⟨rfl, rfl, trivial⟩ rfl rfl⟩
        · simp only [List.length_append]; omega
        · refine congrArg (fun r => SV.one (C.d (Ty.i IntKind.i64) r)) ?_
          show ((m + 1 : Nat) : Int) - 1 = (m : Int)
          omega
      all_goals have hj0 : ¬ (0 : Int) < (j : Int) := of_decide_eq_false (by assumption)
      all_goals have hj : j = 0 := by omega
      all_goals subst hj
      all_goals have h6 : (out, a1, s1) = txM code k [] p.2.1 p.2.2 := h5
      all_goals rw [← h6]
      all_goals first
        | rfl
        | exact (if_pos (of_decide_eq_true hq)).symm
        | exact (if_neg (of_decide_eq_false hq)).symm
        | exact congrArg (fun r => some (Ob.rows 5 Ty.u8 false r)) (if_pos (of_decide_eq_true hq)).symm
        | exact congrArg (fun r => some (Ob.rows 5 Ty.u8 false r)) (if_neg (of_decide_eq_false hq)).symm
end Go.LX
