/- A part of the proof of the statement in the row text. -/
import Derived.Test.YtojaiockbpcilaaLyG3
import Derived.Test.YtojaiockbpcilaaLxNl
set_option linter.unusedVariables false
set_option linter.unusedSimpArgs false
namespace Go.LX
open Go.Proofs
attribute [local irreducible] W WO OpW RW EndQ
set_option maxHeartbeats 4000000 in
set_option maxRecDepth 20000 in
theorem stack_ex (code : List UInt8) (a s : Int) (hl : code.length ≤ 16777216) (hc : CuB a s) (ha : a ≤ 600000000) : ∃ r : Qs, r.1.length ≤ 8 ∧ r.2.1.length ≤ 8 ∧ (∀ e ∈ r.1, e.2.2.length ≤ 401) ∧ (∀ e ∈ r.2.1, e.2.2.length ≤ 401) ∧ CuN a s r.2.2.1 r.2.2.2 1000 ∧ FnC Try.prog 40 [aCur code a s] [aCur code r.2.2.1 r.2.2.2] (.ag [oEs r.1, oEs r.2.1]) := by
  obtain ⟨p1, b1, n1, h1⟩ := pick_ex code a s 8 hl hc
  have b1' := b1.2.1 (by decide)
  have c1 := n1.next hc.a0 (by omega)
  have e1 := n1.a1
  obtain ⟨k, hk⟩ := Int.eq_ofNat_of_zero_le b1.1
  have g1 : GQ ([], [], p1.2.1, p1.2.2) := ⟨by simp, by simp, by simp, by simp, c1⟩
  obtain ⟨g2, n2⟩ := itM_ok (by decide) (psh1_ok code hl) k ([], [], p1.2.1, p1.2.2) (by omega) g1 (by simp only; omega)
  have n2' : CuN p1.2.1 p1.2.2 (itM (psh1 code) k ([], [], p1.2.1, p1.2.2)).2.2.1 (itM (psh1 code) k ([], [], p1.2.1, p1.2.2)).2.2.2 300 := n2.mono (by omega)
  clear n2
  obtain ⟨Q1, hQ1⟩ : ∃ Q1, itM (psh1 code) k ([], [], p1.2.1, p1.2.2) = Q1 := ⟨_, rfl⟩
  rw [hQ1] at g2 n2'
  have n12 := n1.trans n2'
  have e2 := n12.a1
  obtain ⟨p2, b2, n3, h2⟩ := pick_ex code Q1.2.2.1 Q1.2.2.2 5 hl g2.c
  have b2' := b2.2.1 (by decide)
  have n13 := n12.trans n3
  have c3 := n13.next hc.a0 (by omega)
  have e3 := n13.a1
  obtain ⟨m, hm⟩ := Int.eq_ofNat_of_zero_le b2.1
  have g3 : GQ (Q1.1, Q1.2.1, p2.2.1, p2.2.2) := ⟨g2.x, g2.y, g2.wx, g2.wy, c3⟩
  obtain ⟨g4, n4⟩ := itM_ok (by decide) (trn1_ok code hl) m (Q1.1, Q1.2.1, p2.2.1, p2.2.2) (by omega) g3 (by simp only; omega)
  have n4' : CuN p2.2.1 p2.2.2 (itM (trn1 code) m (Q1.1, Q1.2.1, p2.2.1, p2.2.2)).2.2.1 (itM (trn1 code) m (Q1.1, Q1.2.1, p2.2.1, p2.2.2)).2.2.2 300 := n4.mono (by omega)
  clear n4
  obtain ⟨Q2, hQ2⟩ : ∃ Q2, itM (trn1 code) m (Q1.1, Q1.2.1, p2.2.1, p2.2.2) = Q2 := ⟨_, rfl⟩
  rw [hQ2] at g4 n4'
  have n14 := n13.trans n4'
  have e4 := n14.a1
  obtain ⟨p3, b3, n5, h3⟩ := pick_ex code Q2.2.2.1 Q2.2.2.2 14 hl g4.c
  have b3' := b3.2.1 (by decide)
  have n15 := n14.trans n5
  have c5 := n15.next hc.a0 (by omega)
  have e5 := n15.a1
  obtain ⟨s1, n6, h4⟩ := smM_ok code p3.2.1 p3.2.2 hl c5 (by omega)
  have n16 := n15.trans n6
  obtain ⟨f1, f2, f3, f4⟩ := filM_ok code hl 8 (Q2.1, Q2.2.1, p3.2.1, p3.2.2) (by omega) c5 (Nat.le_trans g4.y (by decide)) g4.wy (by simp only; omega)
  have n17 := n15.trans f4
  have hr : ∃ r : Qs, r = (if p3.1 = 0 then (Q2.1 ++ [(smM code p3.2.1 p3.2.2).1], Q2.2.1, (smM code p3.2.1 p3.2.2).2) else if p3.1 = 1 then filM code 8 (Q2.1, Q2.2.1, p3.2.1, p3.2.2) else (Q2.1, Q2.2.1, p3.2)) := ⟨_, rfl⟩
  obtain ⟨r, hr⟩ := hr
  have gx := g4.x
  have gy := g4.y
  refine ⟨r, ?_, ?_, ?_, ?_, ?_, ?_⟩
  · rw [hr]; split
    · simp only [List.length_append, List.length_cons, List.length_nil]; omega
    · split
      · rw [f1]; simp only; omega
      · simp only; omega
  · rw [hr]; split
    · simp only; omega
    · split
      · exact f2
      · simp only; omega
  · rw [hr]; split
    · intro z hz
      rcases List.mem_append.1 hz with hz | hz
      · exact g4.wx z hz
      · simp at hz; rw [hz]; exact s1
    · split
      · rw [f1]; exact g4.wx
      · exact g4.wx
  · rw [hr]; split
    · exact g4.wy
    · split
      · exact f3
      · exact g4.wy
  · rw [hr]; split
    · exact n16.mono (by decide)
    · split
      · exact n17.mono (by decide)
      · exact n15.mono (by decide)
  · clear n16 n17 f1 f2 f3 f4
    refine FnC_of (fn := Try.f40) Try.func40 rfl rfl rfl ?_
    repeat' (first
      | exact trivial
      | (refine inWO ?_; first
        | refine WO_runE (nw := true) rfl rfl ?_ ?_
        | refine WO_runG (nw := true) rfl rfl rfl rfl rfl ?_ ?_
        | refine WO_runU (nw := true) rfl rfl rfl rfl rfl ?_ ?_
        | refine WO_run1 (nw := true) rfl rfl ?_ ?_
        | refine WO_cons rfl ?_
        | refine WO_gT rfl rfl rfl rfl rfl ?_
        | (refine WO_split rfl rfl rfl rfl ?_ ?_ <;> intro hq <;> try (exfalso; (simp_all) <;> omega))
        | refine WO_nil ?_)
      | (refine inRW ?_; first
        | refine RW_runE (nw := true) rfl rfl (fun _ _ => rfl) rfl ?_ ?_
        | refine RW_runG (nw := true) rfl rfl rfl rfl rfl (fun _ _ => rfl) rfl ?_ ?_
        | refine RW_runU (nw := true) rfl rfl rfl rfl rfl (fun _ _ => rfl) rfl ?_ ?_
        | refine RW_op (us := ?_) (ub := ?_) (fp := ?_) rfl (fun s0 b0 => ?_) ?_ ?_
        | refine RW_opT (us := ?_) (ub := ?_) (fp := ?_) rfl rfl rfl rfl (fun s0 b0 => ?_) ?_ ?_
        | (refine RW_split rfl rfl rfl ?_ ?_ <;> intro hq <;> try (exfalso; (simp_all) <;> omega))
        | refine RW_nil ?_ (by first | decide +kernel | kernel_rfl))
      | (refine gate 1 rfl ?_; first
        | refine callB (h1) rfl rfl rfl rfl rfl rfl rfl rfl rfl ⟨rfl, trivial⟩ ⟨rfl, rfl, rfl, trivial⟩ rfl rfl rfl rfl rfl rfl rfl rfl ?_)
      | (refine gate 5 rfl ?_; first
        | refine litR rfl rfl rfl rfl rfl rfl rfl rfl ?_
        | refine litW rfl rfl rfl rfl rfl rfl ?_)
      | (refine gate 2 rfl ?_; first
        | refine apOS rfl rfl rfl rfl rfl rfl rfl rfl rfl rfl rfl ?_ ?_ ?_
        | refine apOL rfl rfl rfl rfl rfl rfl rfl rfl rfl rfl rfl rfl ?_ ?_ ?_
        | refine apNS rfl rfl rfl rfl rfl rfl rfl rfl rfl rfl rfl ?_ ?_ ?_
        | refine apNL rfl rfl rfl rfl rfl rfl rfl rfl rfl rfl rfl rfl ?_ ?_ ?_
        | refine apDO rfl rfl rfl rfl rfl rfl rfl rfl rfl rfl rfl rfl rfl rfl ?_ ?_ ?_
        | refine apDN rfl rfl rfl rfl rfl rfl rfl rfl rfl rfl rfl rfl rfl rfl ?_ ?_ ?_
        | refine op_apMk _ rfl rfl rfl rfl rfl rfl rfl rfl rfl rfl rfl rfl rfl ?_ ?_ ?_ ?_
        | refine apDS rfl rfl rfl rfl rfl rfl rfl rfl rfl rfl rfl ?_ ?_ ?_)
      | (refine gate 6 rfl ?_; refine mkS rfl rfl rfl rfl rfl rfl rfl rfl rfl rfl rfl rfl rfl ?_ ?_ ?_ ?_)
      | (refine gate 6 rfl ?_; refine op_makeD _ rfl rfl rfl rfl rfl rfl rfl rfl rfl rfl rfl rfl rfl ?_ ?_ ?_ ?_)
      | (refine gate 0 rfl ?_; refine op_storeD rfl rfl rfl rfl rfl rfl rfl rfl rfl rfl ?_)
      | (refine gate 3 rfl ?_; refine op_capN rfl rfl rfl rfl rfl ?_)
      | (refine gate 3 rfl ?_; refine op_copy rfl rfl rfl rfl rfl rfl rfl rfl rfl rfl rfl ?_)
      | (refine gate 8 rfl ?_; refine op_mkFn rfl rfl rfl rfl ?_)
      | (refine gate 7 rfl ?_; refine op_nil rfl rfl rfl rfl rfl rfl (fun b hb => ?_))
      | (refine inW ?_; first
        | refine W_seq ?_
        | refine W_region ?_
        | refine W_drawN (by decide +kernel) ?_
        | refine W_block ?_
        | refine W_skip ?_
        | refine W_exit ?_
        | refine W_ret ?_
        | refine W_condT rfl rfl ?_
        | refine W_condF rfl rfl ?_
        | (refine W_condB rfl ?_ ?_ <;> intro hq <;> try (exfalso; (simp_all) <;> omega)))
      | (refine inE ?_; first
        | refine end_d rfl rfl rfl rfl ?_ ?_
        | refine end_o rfl rfl rfl rfl ?_ ?_
        | refine end_of rfl rfl rfl ?_ ?_)
      | refine rsOne ?_
      | refine msPd rfl ?_
      | refine msPn ?_
      | refine msPo rfl ?_
      | refine And.intro ?_ ?_
      | (show List.length _ ≠ 1; simp)
      | (show (_ : Int) ≤ _; first | omega | (simp [IntKind.bits, dflt]; done) | (simp [IntKind.bits, dflt]; omega) | (simp at *; omega))
      | (show (_ : Int) < _; first | omega | (simp [IntKind.bits, dflt]; done) | (simp [IntKind.bits, dflt]; omega) | (simp at *; omega))
      | (show (_ : Nat) ≤ _; first | omega | (unfold maxLen; omega) | (simp [IntKind.bits, dflt]; done) | (simp [IntKind.bits, dflt]; omega) | (simp at *; omega))
      | rfl)
    refine W.weak (Wk_nl (q := 4000) (id := 900000) (j := 0) 28 TEd rfl rfl rfl rfl) ?_
    refine W.weak (Wk_nl (q := 4000) (id := 900001) (j := 1) 28 TEd rfl rfl rfl rfl) ?_
    refine W_loopT (fun q : Nat × Qs => St.tmpl 70 [(0, .one (.rf 0 (.pb 0))), (2, .one (.rf 3000 (.pb 0))), (3, .one (.rf 4000 (.pb 0))), (4, .one (.d (.i .i64) (q.1 : Int)))] [(0, .cells [.d (.sl .u8) code, .d (.i .i64) q.2.2.2.1, .d (.i .i64) q.2.2.2.2]), (3000, .cells [.nl, .nl]), (4000, .cells [.rf 900000 .ar, .rf 900001 .ar]), (900000, .rows 28 TEd true q.2.1), (900001, .rows 28 TEd true q.2.2.1)]) (fun q => q.1 ≤ k ∧ GQ q.2 ∧ q.2.2.2.1 + 100 * q.1 ≤ 700000000 ∧ itM (psh1 code) q.1 q.2 = Q1) (fun q => q.1) (k, [], [], p1.2.1, p1.2.2) ⟨Nat.le_refl _, g1, by simp only; omega, hQ1⟩ ?_ ?_
    · refine Wk_tmpl [] ⟨rfl, rfl, rfl, ?_, trivial⟩ ⟨rfl, rfl, rfl, rfl, rfl, trivial⟩ rfl rfl
      refine congrArg (fun r => SV.one (C.d (Ty.i IntKind.i64) r)) ?_
      exact hk
    · rintro ⟨j, q⟩ ⟨h5, h6, h7, h8⟩
      simp only at h5 h6 h7 h8
      obtain ⟨s2, n8, h9⟩ := smM_ok code q.2.2.1 q.2.2.2 hl h6.c (by omega)
      have h10 := spush_ok q.1 q.2.1 (smM code q.2.2.1 q.2.2.2).1 (Nat.le_trans h6.x (by decide)) (Nat.le_trans h6.y (by decide)) (fun e he => Nat.le_trans (h6.wx e he) (by decide)) (Nat.le_trans s2 (by decide))
      repeat' (first
        | exact trivial
        | (refine inWO ?_; first
          | refine WO_runE (nw := true) rfl rfl ?_ ?_
          | refine WO_runG (nw := true) rfl rfl rfl rfl rfl ?_ ?_
          | refine WO_runU (nw := true) rfl rfl rfl rfl rfl ?_ ?_
          | refine WO_run1 (nw := true) rfl rfl ?_ ?_
          | refine WO_cons rfl ?_
          | refine WO_gT rfl rfl rfl rfl rfl ?_
          | (refine WO_split rfl rfl rfl rfl ?_ ?_ <;> intro hq <;> try (exfalso; (simp_all) <;> omega))
          | refine WO_nil ?_)
        | (refine inRW ?_; first
          | refine RW_runE (nw := true) rfl rfl (fun _ _ => rfl) rfl ?_ ?_
          | refine RW_runG (nw := true) rfl rfl rfl rfl rfl (fun _ _ => rfl) rfl ?_ ?_
          | refine RW_runU (nw := true) rfl rfl rfl rfl rfl (fun _ _ => rfl) rfl ?_ ?_
          | refine RW_op (us := ?_) (ub := ?_) (fp := ?_) rfl (fun s0 b0 => ?_) ?_ ?_
          | refine RW_opT (us := ?_) (ub := ?_) (fp := ?_) rfl rfl rfl rfl (fun s0 b0 => ?_) ?_ ?_
          | (refine RW_split rfl rfl rfl ?_ ?_ <;> intro hq <;> try (exfalso; (simp_all) <;> omega))
          | refine RW_nil ?_ (by first | decide +kernel | kernel_rfl))
        | (refine gate 1 rfl ?_; first
          | refine callB (h9) rfl rfl rfl rfl rfl rfl rfl rfl rfl trivial ⟨rfl, rfl, rfl, trivial⟩ rfl rfl rfl rfl rfl rfl rfl rfl ?_
          | refine callD true (h10) rfl rfl rfl rfl (by (repeat' (first | exact trivial | refine And.intro ?_ ?_ | rfl)); done) rfl rfl ?_)
        | (refine gate 5 rfl ?_; first
          | refine litR rfl rfl rfl rfl rfl rfl rfl rfl ?_
          | refine litW rfl rfl rfl rfl rfl rfl ?_)
        | (refine gate 2 rfl ?_; first
          | refine apOS rfl rfl rfl rfl rfl rfl rfl rfl rfl rfl rfl ?_ ?_ ?_
          | refine apOL rfl rfl rfl rfl rfl rfl rfl rfl rfl rfl rfl rfl ?_ ?_ ?_
          | refine apNS rfl rfl rfl rfl rfl rfl rfl rfl rfl rfl rfl ?_ ?_ ?_
          | refine apNL rfl rfl rfl rfl rfl rfl rfl rfl rfl rfl rfl rfl ?_ ?_ ?_
          | refine apDO rfl rfl rfl rfl rfl rfl rfl rfl rfl rfl rfl rfl rfl rfl ?_ ?_ ?_
          | refine apDN rfl rfl rfl rfl rfl rfl rfl rfl rfl rfl rfl rfl rfl rfl ?_ ?_ ?_
          | refine op_apMk _ rfl rfl rfl rfl rfl rfl rfl rfl rfl rfl rfl rfl rfl ?_ ?_ ?_ ?_
          | refine apDS rfl rfl rfl rfl rfl rfl rfl rfl rfl rfl rfl ?_ ?_ ?_)
        | (refine gate 6 rfl ?_; refine mkS rfl rfl rfl rfl rfl rfl rfl rfl rfl rfl rfl rfl rfl ?_ ?_ ?_ ?_)
        | (refine gate 6 rfl ?_; refine op_makeD _ rfl rfl rfl rfl rfl rfl rfl rfl rfl rfl rfl rfl rfl ?_ ?_ ?_ ?_)
        | (refine gate 0 rfl ?_; refine op_storeD rfl rfl rfl rfl rfl rfl rfl rfl rfl rfl ?_)
        | (refine gate 3 rfl ?_; refine op_capN rfl rfl rfl rfl rfl ?_)
        | (refine gate 3 rfl ?_; refine op_copy rfl rfl rfl rfl rfl rfl rfl rfl rfl rfl rfl ?_)
        | (refine gate 8 rfl ?_; refine op_mkFn rfl rfl rfl rfl ?_)
        | (refine gate 7 rfl ?_; refine op_nil rfl rfl rfl rfl rfl rfl (fun b hb => ?_))
        | (refine inW ?_; first
          | refine W_seq ?_
          | refine W_region ?_
          | refine W_drawN (by decide +kernel) ?_
          | refine W_block ?_
          | refine W_skip ?_
          | refine W_exit ?_
          | refine W_ret ?_
          | refine W_condT rfl rfl ?_
          | refine W_condF rfl rfl ?_
          | (refine W_condB rfl ?_ ?_ <;> intro hq <;> try (exfalso; (simp_all) <;> omega)))
        | (refine inE ?_; first
          | refine end_d rfl rfl rfl rfl ?_ ?_
          | refine end_o rfl rfl rfl rfl ?_ ?_
          | refine end_of rfl rfl rfl ?_ ?_)
        | refine rsOne ?_
        | refine msPd rfl ?_
        | refine msPn ?_
        | refine msPo rfl ?_
        | refine And.intro ?_ ?_
        | (show List.length _ ≠ 1; simp)
        | (show (_ : Int) ≤ _; first | omega | (simp [IntKind.bits, dflt]; done) | (simp [IntKind.bits, dflt]; omega) | (simp at *; omega))
        | (show (_ : Int) < _; first | omega | (simp [IntKind.bits, dflt]; done) | (simp [IntKind.bits, dflt]; omega) | (simp at *; omega))
        | (show (_ : Nat) ≤ _; first | omega | (unfold maxLen; omega) | (simp [IntKind.bits, dflt]; done) | (simp [IntKind.bits, dflt]; omega) | (simp at *; omega))
        | rfl)
      · rename_i h0
        have h0 : (0 : Int) < (j : Int) := of_decide_eq_true h0
        obtain ⟨j', rfl⟩ : ∃ j', j = j' + 1 := ⟨j - 1, by omega⟩
        have e : psh1 code q = ((pshM q.1 q.2.1 (smM code q.2.2.1 q.2.2.2).1).1, (pshM q.1 q.2.1 (smM code q.2.2.1 q.2.2.2).1).2, (smM code q.2.2.1 q.2.2.2).2) := by unfold psh1; rw [if_pos hq]
        obtain ⟨h11, h12⟩ := psh1_ok code hl q h6 (by omega)
        have h13 := h12.a1
        have h8 : itM (psh1 code) j' (psh1 code q) = Q1 := h8
        rw [e] at h8 h11 h13
        refine ⟨(j', _), Nat.lt_succ_self j', ⟨by simp only; omega, h11, by simp only at h13 ⊢; omega, h8⟩, Wk_tmpl [(900000, 22000), (900001, 22001)] ⟨rfl, rfl, rfl, ?_, trivial⟩ ⟨rfl, rfl, rfl, rfl, rfl, trivial⟩ rfl rfl⟩
        refine congrArg (fun r => SV.one (C.d (Ty.i IntKind.i64) r)) ?_
        show ((j' + 1 : Nat) : Int) - 1 = (j' : Int)
        omega
      · rename_i h0
        have h0 : (0 : Int) < (j : Int) := of_decide_eq_true h0
        obtain ⟨j', rfl⟩ : ∃ j', j = j' + 1 := ⟨j - 1, by omega⟩
        have e : psh1 code q = (q.1, q.2.1, (smM code q.2.2.1 q.2.2.2).2) := by unfold psh1; rw [if_neg (by rw [hq]; simp)]
        obtain ⟨h11, h12⟩ := psh1_ok code hl q h6 (by omega)
        have h13 := h12.a1
        have h8 : itM (psh1 code) j' (psh1 code q) = Q1 := h8
        rw [e] at h8 h11 h13
        refine ⟨(j', _), Nat.lt_succ_self j', ⟨by simp only; omega, h11, by simp only at h13 ⊢; omega, h8⟩, Wk_tmpl [] ⟨rfl, rfl, rfl, ?_, trivial⟩ ⟨rfl, rfl, rfl, rfl, rfl, trivial⟩ rfl rfl⟩
        refine congrArg (fun r => SV.one (C.d (Ty.i IntKind.i64) r)) ?_
        show ((j' + 1 : Nat) : Int) - 1 = (j' : Int)
        omega
      · have h0 : ¬ (0 : Int) < (j : Int) := of_decide_eq_false hq
        have h0 : j = 0 := by omega
        subst h0
        have h8 : q = Q1 := h8
        subst h8
        clear h9 h10 n8 s2 h6 h7
        repeat' (first
          | exact trivial
          | (refine inWO ?_; first
            | refine WO_runE (nw := true) rfl rfl ?_ ?_
            | refine WO_runG (nw := true) rfl rfl rfl rfl rfl ?_ ?_
            | refine WO_runU (nw := true) rfl rfl rfl rfl rfl ?_ ?_
            | refine WO_run1 (nw := true) rfl rfl ?_ ?_
            | refine WO_cons rfl ?_
            | refine WO_gT rfl rfl rfl rfl rfl ?_
            | (refine WO_split rfl rfl rfl rfl ?_ ?_ <;> intro hq <;> try (exfalso; (simp_all) <;> omega))
            | refine WO_nil ?_)
          | (refine inRW ?_; first
            | refine RW_runE (nw := true) rfl rfl (fun _ _ => rfl) rfl ?_ ?_
            | refine RW_runG (nw := true) rfl rfl rfl rfl rfl (fun _ _ => rfl) rfl ?_ ?_
            | refine RW_runU (nw := true) rfl rfl rfl rfl rfl (fun _ _ => rfl) rfl ?_ ?_
            | refine RW_op (us := ?_) (ub := ?_) (fp := ?_) rfl (fun s0 b0 => ?_) ?_ ?_
            | refine RW_opT (us := ?_) (ub := ?_) (fp := ?_) rfl rfl rfl rfl (fun s0 b0 => ?_) ?_ ?_
            | (refine RW_split rfl rfl rfl ?_ ?_ <;> intro hq <;> try (exfalso; (simp_all) <;> omega))
            | refine RW_nil ?_ (by first | decide +kernel | kernel_rfl))
          | (refine gate 1 rfl ?_; first
            | refine callB (h2) rfl rfl rfl rfl rfl rfl rfl rfl rfl ⟨rfl, trivial⟩ ⟨rfl, rfl, rfl, trivial⟩ rfl rfl rfl rfl rfl rfl rfl rfl ?_)
          | (refine gate 5 rfl ?_; first
            | refine litR rfl rfl rfl rfl rfl rfl rfl rfl ?_
            | refine litW rfl rfl rfl rfl rfl rfl ?_)
          | (refine gate 2 rfl ?_; first
            | refine apOS rfl rfl rfl rfl rfl rfl rfl rfl rfl rfl rfl ?_ ?_ ?_
            | refine apOL rfl rfl rfl rfl rfl rfl rfl rfl rfl rfl rfl rfl ?_ ?_ ?_
            | refine apNS rfl rfl rfl rfl rfl rfl rfl rfl rfl rfl rfl ?_ ?_ ?_
            | refine apNL rfl rfl rfl rfl rfl rfl rfl rfl rfl rfl rfl rfl ?_ ?_ ?_
            | refine apDO rfl rfl rfl rfl rfl rfl rfl rfl rfl rfl rfl rfl rfl rfl ?_ ?_ ?_
            | refine apDN rfl rfl rfl rfl rfl rfl rfl rfl rfl rfl rfl rfl rfl rfl ?_ ?_ ?_
            | refine op_apMk _ rfl rfl rfl rfl rfl rfl rfl rfl rfl rfl rfl rfl rfl ?_ ?_ ?_ ?_
            | refine apDS rfl rfl rfl rfl rfl rfl rfl rfl rfl rfl rfl ?_ ?_ ?_)
          | (refine gate 6 rfl ?_; refine mkS rfl rfl rfl rfl rfl rfl rfl rfl rfl rfl rfl rfl rfl ?_ ?_ ?_ ?_)
          | (refine gate 6 rfl ?_; refine op_makeD _ rfl rfl rfl rfl rfl rfl rfl rfl rfl rfl rfl rfl rfl ?_ ?_ ?_ ?_)
          | (refine gate 0 rfl ?_; refine op_storeD rfl rfl rfl rfl rfl rfl rfl rfl rfl rfl ?_)
          | (refine gate 3 rfl ?_; refine op_capN rfl rfl rfl rfl rfl ?_)
          | (refine gate 3 rfl ?_; refine op_copy rfl rfl rfl rfl rfl rfl rfl rfl rfl rfl rfl ?_)
          | (refine gate 8 rfl ?_; refine op_mkFn rfl rfl rfl rfl ?_)
          | (refine gate 7 rfl ?_; refine op_nil rfl rfl rfl rfl rfl rfl (fun b hb => ?_))
          | (refine inW ?_; first
            | refine W_seq ?_
            | refine W_region ?_
            | refine W_drawN (by decide +kernel) ?_
            | refine W_block ?_
            | refine W_skip ?_
            | refine W_exit ?_
            | refine W_ret ?_
            | refine W_condT rfl rfl ?_
            | refine W_condF rfl rfl ?_
            | (refine W_condB rfl ?_ ?_ <;> intro hq <;> try (exfalso; (simp_all) <;> omega)))
          | (refine inE ?_; first
            | refine end_d rfl rfl rfl rfl ?_ ?_
            | refine end_o rfl rfl rfl rfl ?_ ?_
            | refine end_of rfl rfl rfl ?_ ?_)
          | refine rsOne ?_
          | refine msPd rfl ?_
          | refine msPn ?_
          | refine msPo rfl ?_
          | refine And.intro ?_ ?_
          | (show List.length _ ≠ 1; simp)
          | (show (_ : Int) ≤ _; first | omega | (simp [IntKind.bits, dflt]; done) | (simp [IntKind.bits, dflt]; omega) | (simp at *; omega))
          | (show (_ : Int) < _; first | omega | (simp [IntKind.bits, dflt]; done) | (simp [IntKind.bits, dflt]; omega) | (simp at *; omega))
          | (show (_ : Nat) ≤ _; first | omega | (unfold maxLen; omega) | (simp [IntKind.bits, dflt]; done) | (simp [IntKind.bits, dflt]; omega) | (simp at *; omega))
          | rfl)
        refine W_loopT (fun z : Nat × Qs => St.tmpl 70 [(0, .one (.rf 0 (.pb 0))), (2, .one (.rf 3000 (.pb 0))), (3, .one (.rf 4000 (.pb 0))), (7, .one (.d (.i .i64) (z.1 : Int)))] [(0, .cells [.d (.sl .u8) code, .d (.i .i64) z.2.2.2.1, .d (.i .i64) z.2.2.2.2]), (3000, .cells [.nl, .nl]), (4000, .cells [.rf 900000 .ar, .rf 900001 .ar]), (900000, .rows 28 TEd true z.2.1), (900001, .rows 28 TEd true z.2.2.1)]) (fun z => z.1 ≤ m ∧ GQ z.2 ∧ z.2.2.2.1 + 100 * z.1 ≤ 700000000 ∧ itM (trn1 code) z.1 z.2 = Q2) (fun z => z.1) (m, q.1, q.2.1, p2.2.1, p2.2.2) ⟨Nat.le_refl _, g3, by simp only; omega, hQ2⟩ ?_ ?_
        · refine Wk_tmpl [] ⟨rfl, rfl, rfl, ?_, trivial⟩ ⟨rfl, rfl, rfl, rfl, rfl, trivial⟩ rfl rfl
          refine congrArg (fun r => SV.one (C.d (Ty.i IntKind.i64) r)) ?_
          exact hm
        · rintro ⟨j, z⟩ ⟨h5, h6, h7, h8⟩
          simp only at h5 h6 h7 h8
          obtain ⟨n7, h9⟩ := onM_ok code z.2.2.1 z.2.2.2 3 hl h6.c (by decide)
          have n7' := n7.a1
          obtain ⟨s2, n8, h10⟩ := smM_ok code _ _ hl (n7.next h6.c.a0 (by omega)) (by omega)
          have h11 := sturn_ok z.1 z.2.1 (onM code z.2.2.1 z.2.2.2 3).1 (smM code (onM code z.2.2.1 z.2.2.2 3).2.1 (onM code z.2.2.1 z.2.2.2 3).2.2).1 (Nat.le_trans h6.x (by decide)) (Nat.le_trans h6.y (by decide)) (fun e he => Nat.le_trans (h6.wx e he) (by decide)) (fun e he => Nat.le_trans (h6.wy e he) (by decide)) (Nat.le_trans s2 (by decide))
          repeat' (first
            | exact trivial
            | (refine inWO ?_; first
              | refine WO_runE (nw := true) rfl rfl ?_ ?_
              | refine WO_runG (nw := true) rfl rfl rfl rfl rfl ?_ ?_
              | refine WO_runU (nw := true) rfl rfl rfl rfl rfl ?_ ?_
              | refine WO_run1 (nw := true) rfl rfl ?_ ?_
              | refine WO_cons rfl ?_
              | refine WO_gT rfl rfl rfl rfl rfl ?_
              | (refine WO_split rfl rfl rfl rfl ?_ ?_ <;> intro hq <;> try (exfalso; (simp_all) <;> omega))
              | refine WO_nil ?_)
            | (refine inRW ?_; first
              | refine RW_runE (nw := true) rfl rfl (fun _ _ => rfl) rfl ?_ ?_
              | refine RW_runG (nw := true) rfl rfl rfl rfl rfl (fun _ _ => rfl) rfl ?_ ?_
              | refine RW_runU (nw := true) rfl rfl rfl rfl rfl (fun _ _ => rfl) rfl ?_ ?_
              | refine RW_op (us := ?_) (ub := ?_) (fp := ?_) rfl (fun s0 b0 => ?_) ?_ ?_
              | refine RW_opT (us := ?_) (ub := ?_) (fp := ?_) rfl rfl rfl rfl (fun s0 b0 => ?_) ?_ ?_
              | (refine RW_split rfl rfl rfl ?_ ?_ <;> intro hq <;> try (exfalso; (simp_all) <;> omega))
              | refine RW_nil ?_ (by first | decide +kernel | kernel_rfl))
            | (refine gate 1 rfl ?_; first
              | refine callB (h9) rfl rfl rfl rfl rfl rfl rfl rfl rfl ⟨rfl, trivial⟩ ⟨rfl, rfl, rfl, trivial⟩ rfl rfl rfl rfl rfl rfl rfl rfl ?_
              | refine callB (h10) rfl rfl rfl rfl rfl rfl rfl rfl rfl trivial ⟨rfl, rfl, rfl, trivial⟩ rfl rfl rfl rfl rfl rfl rfl rfl ?_
              | refine callD true (h11) rfl rfl rfl rfl (by (repeat' (first | exact trivial | refine And.intro ?_ ?_ | rfl)); done) rfl rfl ?_)
            | (refine gate 5 rfl ?_; first
              | refine litR rfl rfl rfl rfl rfl rfl rfl rfl ?_
              | refine litW rfl rfl rfl rfl rfl rfl ?_)
            | (refine gate 2 rfl ?_; first
              | refine apOS rfl rfl rfl rfl rfl rfl rfl rfl rfl rfl rfl ?_ ?_ ?_
              | refine apOL rfl rfl rfl rfl rfl rfl rfl rfl rfl rfl rfl rfl ?_ ?_ ?_
              | refine apNS rfl rfl rfl rfl rfl rfl rfl rfl rfl rfl rfl ?_ ?_ ?_
              | refine apNL rfl rfl rfl rfl rfl rfl rfl rfl rfl rfl rfl rfl ?_ ?_ ?_
              | refine apDO rfl rfl rfl rfl rfl rfl rfl rfl rfl rfl rfl rfl rfl rfl ?_ ?_ ?_
              | refine apDN rfl rfl rfl rfl rfl rfl rfl rfl rfl rfl rfl rfl rfl rfl ?_ ?_ ?_
              | refine op_apMk _ rfl rfl rfl rfl rfl rfl rfl rfl rfl rfl rfl rfl rfl ?_ ?_ ?_ ?_
              | refine apDS rfl rfl rfl rfl rfl rfl rfl rfl rfl rfl rfl ?_ ?_ ?_)
            | (refine gate 6 rfl ?_; refine mkS rfl rfl rfl rfl rfl rfl rfl rfl rfl rfl rfl rfl rfl ?_ ?_ ?_ ?_)
            | (refine gate 6 rfl ?_; refine op_makeD _ rfl rfl rfl rfl rfl rfl rfl rfl rfl rfl rfl rfl rfl ?_ ?_ ?_ ?_)
            | (refine gate 0 rfl ?_; refine op_storeD rfl rfl rfl rfl rfl rfl rfl rfl rfl rfl ?_)
            | (refine gate 3 rfl ?_; refine op_capN rfl rfl rfl rfl rfl ?_)
            | (refine gate 3 rfl ?_; refine op_copy rfl rfl rfl rfl rfl rfl rfl rfl rfl rfl rfl ?_)
            | (refine gate 8 rfl ?_; refine op_mkFn rfl rfl rfl rfl ?_)
            | (refine gate 7 rfl ?_; refine op_nil rfl rfl rfl rfl rfl rfl (fun b hb => ?_))
            | (refine inW ?_; first
              | refine W_seq ?_
              | refine W_region ?_
              | refine W_drawN (by decide +kernel) ?_
              | refine W_block ?_
              | refine W_skip ?_
              | refine W_exit ?_
              | refine W_ret ?_
              | refine W_condT rfl rfl ?_
              | refine W_condF rfl rfl ?_
              | (refine W_condB rfl ?_ ?_ <;> intro hq <;> try (exfalso; (simp_all) <;> omega)))
            | (refine inE ?_; first
              | refine end_d rfl rfl rfl rfl ?_ ?_
              | refine end_o rfl rfl rfl rfl ?_ ?_
              | refine end_of rfl rfl rfl ?_ ?_)
            | refine rsOne ?_
            | refine msPd rfl ?_
            | refine msPn ?_
            | refine msPo rfl ?_
            | refine And.intro ?_ ?_
            | (show List.length _ ≠ 1; simp)
            | (show (_ : Int) ≤ _; first | omega | (simp [IntKind.bits, dflt]; done) | (simp [IntKind.bits, dflt]; omega) | (simp at *; omega))
            | (show (_ : Int) < _; first | omega | (simp [IntKind.bits, dflt]; done) | (simp [IntKind.bits, dflt]; omega) | (simp at *; omega))
            | (show (_ : Nat) ≤ _; first | omega | (unfold maxLen; omega) | (simp [IntKind.bits, dflt]; done) | (simp [IntKind.bits, dflt]; omega) | (simp at *; omega))
            | rfl)
          · rename_i h0
            have h0 : (0 : Int) < (j : Int) := of_decide_eq_true h0
            obtain ⟨j', rfl⟩ : ∃ j', j = j' + 1 := ⟨j - 1, by omega⟩
            obtain ⟨h11, h12⟩ := trn1_ok code hl z h6 (by omega)
            have h13 := h12.a1
            have h8 : itM (trn1 code) j' (trn1 code z) = Q2 := h8
            rw [trn1, if_pos hq] at h8 h11 h13
            refine ⟨(j', _), Nat.lt_succ_self j', ⟨by simp only; omega, h11, by simp only at h13 ⊢; omega, h8⟩, Wk_tmpl [(900000, 39000), (900001, 39001)] ⟨rfl, rfl, rfl, ?_, trivial⟩ ⟨rfl, rfl, rfl, rfl, rfl, trivial⟩ rfl rfl⟩
            refine congrArg (fun r => SV.one (C.d (Ty.i IntKind.i64) r)) ?_
            show ((j' + 1 : Nat) : Int) - 1 = (j' : Int)
            omega
          · rename_i h0
            have h0 : (0 : Int) < (j : Int) := of_decide_eq_true h0
            obtain ⟨j', rfl⟩ : ∃ j', j = j' + 1 := ⟨j - 1, by omega⟩
            obtain ⟨h11, h12⟩ := trn1_ok code hl z h6 (by omega)
            have h13 := h12.a1
            have h8 : itM (trn1 code) j' (trn1 code z) = Q2 := h8
            rw [trn1, if_neg (by rw [hq]; simp)] at h8 h11 h13
            refine ⟨(j', _), Nat.lt_succ_self j', ⟨by simp only; omega, h11, by simp only at h13 ⊢; omega, h8⟩, Wk_tmpl [] ⟨rfl, rfl, rfl, ?_, trivial⟩ ⟨rfl, rfl, rfl, rfl, rfl, trivial⟩ rfl rfl⟩
            refine congrArg (fun r => SV.one (C.d (Ty.i IntKind.i64) r)) ?_
            show ((j' + 1 : Nat) : Int) - 1 = (j' : Int)
            omega
          · have h0 : ¬ (0 : Int) < (j : Int) := of_decide_eq_false hq
            have h0 : j = 0 := by omega
            subst h0
            have h8 : z = Q2 := h8
            subst h8
            clear h9 h10 h11 n8 s2 h6 h7 n7
            by_cases k0 : p3.1 = 0
            · rw [if_pos k0] at hr
              subst hr
              repeat' (first
                | exact trivial
                | (refine inWO ?_; first
                  | refine WO_runE (nw := true) rfl rfl ?_ ?_
                  | refine WO_runG (nw := true) rfl rfl rfl rfl rfl ?_ ?_
                  | refine WO_runU (nw := true) rfl rfl rfl rfl rfl ?_ ?_
                  | refine WO_run1 (nw := true) rfl rfl ?_ ?_
                  | refine WO_cons rfl ?_
                  | refine WO_gT rfl rfl rfl rfl rfl ?_
                  | (refine WO_split rfl rfl rfl rfl ?_ ?_ <;> intro hq <;> try (exfalso; (simp_all) <;> omega))
                  | refine WO_nil ?_)
                | (refine inRW ?_; first
                  | refine RW_runE (nw := true) rfl rfl (fun _ _ => rfl) rfl ?_ ?_
                  | refine RW_runG (nw := true) rfl rfl rfl rfl rfl (fun _ _ => rfl) rfl ?_ ?_
                  | refine RW_runU (nw := true) rfl rfl rfl rfl rfl (fun _ _ => rfl) rfl ?_ ?_
                  | refine RW_op (us := ?_) (ub := ?_) (fp := ?_) rfl (fun s0 b0 => ?_) ?_ ?_
                  | refine RW_opT (us := ?_) (ub := ?_) (fp := ?_) rfl rfl rfl rfl (fun s0 b0 => ?_) ?_ ?_
                  | (refine RW_split rfl rfl rfl ?_ ?_ <;> intro hq <;> try (exfalso; (simp_all) <;> omega))
                  | refine RW_nil ?_ (by first | decide +kernel | kernel_rfl))
                | (refine gate 1 rfl ?_; first
                  | refine callB (h3) rfl rfl rfl rfl rfl rfl rfl rfl rfl ⟨rfl, trivial⟩ ⟨rfl, rfl, rfl, trivial⟩ rfl rfl rfl rfl rfl rfl rfl rfl ?_
                  | refine callB (h4) rfl rfl rfl rfl rfl rfl rfl rfl rfl trivial ⟨rfl, rfl, rfl, trivial⟩ rfl rfl rfl rfl rfl rfl rfl rfl ?_)
                | (refine gate 5 rfl ?_; first
                  | refine litR rfl rfl rfl rfl rfl rfl rfl rfl ?_
                  | refine litW rfl rfl rfl rfl rfl rfl ?_)
                | (refine gate 2 rfl ?_; first
                  | refine apOS rfl rfl rfl rfl rfl rfl rfl rfl rfl rfl rfl ?_ ?_ ?_
                  | refine apOL rfl rfl rfl rfl rfl rfl rfl rfl rfl rfl rfl rfl ?_ ?_ ?_
                  | refine apNS rfl rfl rfl rfl rfl rfl rfl rfl rfl rfl rfl ?_ ?_ ?_
                  | refine apNL rfl rfl rfl rfl rfl rfl rfl rfl rfl rfl rfl rfl ?_ ?_ ?_
                  | refine apDO rfl rfl rfl rfl rfl rfl rfl rfl rfl rfl rfl rfl rfl rfl ?_ ?_ ?_
                  | refine apDN rfl rfl rfl rfl rfl rfl rfl rfl rfl rfl rfl rfl rfl rfl ?_ ?_ ?_
                  | refine op_apMk _ rfl rfl rfl rfl rfl rfl rfl rfl rfl rfl rfl rfl rfl ?_ ?_ ?_ ?_
                  | refine apDS rfl rfl rfl rfl rfl rfl rfl rfl rfl rfl rfl ?_ ?_ ?_)
                | (refine gate 6 rfl ?_; refine mkS rfl rfl rfl rfl rfl rfl rfl rfl rfl rfl rfl rfl rfl ?_ ?_ ?_ ?_)
                | (refine gate 6 rfl ?_; refine op_makeD _ rfl rfl rfl rfl rfl rfl rfl rfl rfl rfl rfl rfl rfl ?_ ?_ ?_ ?_)
                | (refine gate 0 rfl ?_; refine op_storeD rfl rfl rfl rfl rfl rfl rfl rfl rfl rfl ?_)
                | (refine gate 3 rfl ?_; refine op_capN rfl rfl rfl rfl rfl ?_)
                | (refine gate 3 rfl ?_; refine op_copy rfl rfl rfl rfl rfl rfl rfl rfl rfl rfl rfl ?_)
                | (refine gate 8 rfl ?_; refine op_mkFn rfl rfl rfl rfl ?_)
                | (refine gate 7 rfl ?_; refine op_nil rfl rfl rfl rfl rfl rfl (fun b hb => ?_))
                | (refine inW ?_; first
                  | refine W_seq ?_
                  | refine W_region ?_
                  | refine W_drawN (by decide +kernel) ?_
                  | refine W_block ?_
                  | refine W_skip ?_
                  | refine W_exit ?_
                  | refine W_ret ?_
                  | refine W_condT rfl rfl ?_
                  | refine W_condF rfl rfl ?_
                  | (refine W_condB rfl ?_ ?_ <;> intro hq <;> try (exfalso; (simp_all) <;> omega)))
                | (refine inE ?_; first
                  | refine end_d rfl rfl rfl rfl ?_ ?_
                  | refine end_o rfl rfl rfl rfl ?_ ?_
                  | refine end_of rfl rfl rfl ?_ ?_)
                | refine rsOne ?_
                | refine msPd rfl ?_
                | refine msPn ?_
                | refine msPo rfl ?_
                | refine And.intro ?_ ?_
                | (show List.length _ ≠ 1; simp)
                | (show (_ : Int) ≤ _; first | omega | (simp [IntKind.bits, dflt]; done) | (simp [IntKind.bits, dflt]; omega) | (simp at *; omega))
                | (show (_ : Int) < _; first | omega | (simp [IntKind.bits, dflt]; done) | (simp [IntKind.bits, dflt]; omega) | (simp at *; omega))
                | (show (_ : Nat) ≤ _; first | omega | (unfold maxLen; omega) | (simp [IntKind.bits, dflt]; done) | (simp [IntKind.bits, dflt]; omega) | (simp at *; omega))
                | rfl)
              show z.1.length + 1 ≤ maxLen
              unfold maxLen; omega
            · rw [if_neg k0] at hr
              by_cases k1 : p3.1 = 1
              · rw [if_pos k1] at hr
                subst hr
                repeat' (first
                  | exact trivial
                  | (refine inWO ?_; first
                    | refine WO_runE (nw := true) rfl rfl ?_ ?_
                    | refine WO_runG (nw := true) rfl rfl rfl rfl rfl ?_ ?_
                    | refine WO_runU (nw := true) rfl rfl rfl rfl rfl ?_ ?_
                    | refine WO_run1 (nw := true) rfl rfl ?_ ?_
                    | refine WO_cons rfl ?_
                    | refine WO_gT rfl rfl rfl rfl rfl ?_
                    | (refine WO_split rfl rfl rfl rfl ?_ ?_ <;> intro hq <;> try (exfalso; (simp_all) <;> omega))
                    | refine WO_nil ?_)
                  | (refine inRW ?_; first
                    | refine RW_runE (nw := true) rfl rfl (fun _ _ => rfl) rfl ?_ ?_
                    | refine RW_runG (nw := true) rfl rfl rfl rfl rfl (fun _ _ => rfl) rfl ?_ ?_
                    | refine RW_runU (nw := true) rfl rfl rfl rfl rfl (fun _ _ => rfl) rfl ?_ ?_
                    | refine RW_op (us := ?_) (ub := ?_) (fp := ?_) rfl (fun s0 b0 => ?_) ?_ ?_
                    | refine RW_opT (us := ?_) (ub := ?_) (fp := ?_) rfl rfl rfl rfl (fun s0 b0 => ?_) ?_ ?_
                    | (refine RW_split rfl rfl rfl ?_ ?_ <;> intro hq <;> try (exfalso; (simp_all) <;> omega))
                    | refine RW_nil ?_ (by first | decide +kernel | kernel_rfl))
                  | (refine gate 1 rfl ?_; first
                    | refine callB (h3) rfl rfl rfl rfl rfl rfl rfl rfl rfl ⟨rfl, trivial⟩ ⟨rfl, rfl, rfl, trivial⟩ rfl rfl rfl rfl rfl rfl rfl rfl ?_)
                  | (refine gate 5 rfl ?_; first
                    | refine litR rfl rfl rfl rfl rfl rfl rfl rfl ?_
                    | refine litW rfl rfl rfl rfl rfl rfl ?_)
                  | (refine gate 2 rfl ?_; first
                    | refine apOS rfl rfl rfl rfl rfl rfl rfl rfl rfl rfl rfl ?_ ?_ ?_
                    | refine apOL rfl rfl rfl rfl rfl rfl rfl rfl rfl rfl rfl rfl ?_ ?_ ?_
                    | refine apNS rfl rfl rfl rfl rfl rfl rfl rfl rfl rfl rfl ?_ ?_ ?_
                    | refine apNL rfl rfl rfl rfl rfl rfl rfl rfl rfl rfl rfl rfl ?_ ?_ ?_
                    | refine apDO rfl rfl rfl rfl rfl rfl rfl rfl rfl rfl rfl rfl rfl rfl ?_ ?_ ?_
                    | refine apDN rfl rfl rfl rfl rfl rfl rfl rfl rfl rfl rfl rfl rfl rfl ?_ ?_ ?_
                    | refine op_apMk _ rfl rfl rfl rfl rfl rfl rfl rfl rfl rfl rfl rfl rfl ?_ ?_ ?_ ?_
                    | refine apDS rfl rfl rfl rfl rfl rfl rfl rfl rfl rfl rfl ?_ ?_ ?_)
                  | (refine gate 6 rfl ?_; refine mkS rfl rfl rfl rfl rfl rfl rfl rfl rfl rfl rfl rfl rfl ?_ ?_ ?_ ?_)
                  | (refine gate 6 rfl ?_; refine op_makeD _ rfl rfl rfl rfl rfl rfl rfl rfl rfl rfl rfl rfl rfl ?_ ?_ ?_ ?_)
                  | (refine gate 0 rfl ?_; refine op_storeD rfl rfl rfl rfl rfl rfl rfl rfl rfl rfl ?_)
                  | (refine gate 3 rfl ?_; refine op_capN rfl rfl rfl rfl rfl ?_)
                  | (refine gate 3 rfl ?_; refine op_copy rfl rfl rfl rfl rfl rfl rfl rfl rfl rfl rfl ?_)
                  | (refine gate 8 rfl ?_; refine op_mkFn rfl rfl rfl rfl ?_)
                  | (refine gate 7 rfl ?_; refine op_nil rfl rfl rfl rfl rfl rfl (fun b hb => ?_))
                  | (refine inW ?_; first
                    | refine W_seq ?_
                    | refine W_region ?_
                    | refine W_drawN (by decide +kernel) ?_
                    | refine W_block ?_
                    | refine W_skip ?_
                    | refine W_exit ?_
                    | refine W_ret ?_
                    | refine W_condT rfl rfl ?_
                    | refine W_condF rfl rfl ?_
                    | (refine W_condB rfl ?_ ?_ <;> intro hq <;> try (exfalso; (simp_all) <;> omega)))
                  | (refine inE ?_; first
                    | refine end_d rfl rfl rfl rfl ?_ ?_
                    | refine end_o rfl rfl rfl rfl ?_ ?_
                    | refine end_of rfl rfl rfl ?_ ?_)
                  | refine rsOne ?_
                  | refine msPd rfl ?_
                  | refine msPn ?_
                  | refine msPo rfl ?_
                  | refine And.intro ?_ ?_
                  | (show List.length _ ≠ 1; simp)
                  | (show (_ : Int) ≤ _; first | omega | (simp [IntKind.bits, dflt]; done) | (simp [IntKind.bits, dflt]; omega) | (simp at *; omega))
                  | (show (_ : Int) < _; first | omega | (simp [IntKind.bits, dflt]; done) | (simp [IntKind.bits, dflt]; omega) | (simp at *; omega))
                  | (show (_ : Nat) ≤ _; first | omega | (unfold maxLen; omega) | (simp [IntKind.bits, dflt]; done) | (simp [IntKind.bits, dflt]; omega) | (simp at *; omega))
                  | rfl)
                refine W_loopT (fun y : Nat × Qs => St.tmpl 70 [(0, .one (.rf 0 (.pb 0))), (2, .one (.rf 3000 (.pb 0))), (3, .one (.rf 4000 (.pb 0)))] [(0, .cells [.d (.sl .u8) code, .d (.i .i64) y.2.2.2.1, .d (.i .i64) y.2.2.2.2]), (3000, .cells [.nl, .nl]), (4000, .cells [.rf 900000 .ar, .rf 900001 .ar]), (900000, .rows 28 TEd true y.2.1), (900001, .rows 28 TEd true y.2.2.1)]) (fun y => y.1 ≤ 8 ∧ 8 ≤ y.2.2.1.length + y.1 ∧ y.2.2.1.length ≤ 7 ∧ CuB y.2.2.2.1 y.2.2.2.2 ∧ y.2.2.2.1 + y.1 ≤ 700000000 ∧ filM code y.1 y.2 = filM code 8 (z.1, z.2.1, p3.2.1, p3.2.2)) (fun y => y.1) (8, z.1, z.2.1, p3.2.1, p3.2.2) ⟨Nat.le_refl _, by simp only; omega, by simp only; omega, c5, by simp only; omega, rfl⟩ ?_ ?_
                · exact Wk_tmpl [] ⟨rfl, rfl, rfl, trivial⟩ ⟨rfl, rfl, rfl, rfl, rfl, trivial⟩ rfl rfl
                · rintro ⟨f, y⟩ ⟨h5, h6, h7, h8, h9, h10⟩
                  simp only at h5 h6 h7 h8 h9 h10
                  obtain ⟨i1, i2, i3⟩ := pkM_ok code y.2.2.1 y.2.2.2 2 hl h8
                  have i4 := i1.2.1 (by decide)
                  have i5 := i1.1
                  have i6 := i2.a1
                  obtain ⟨f', rfl⟩ : ∃ f', f = f' + 1 := ⟨f - 1, by omega⟩
                  rw [← h10]
                  have hfil : filM code (f' + 1) y = if (y.2.1.length : Int) < 6 + (pkM code y.2.2.1 y.2.2.2 2).1 then filM code f' (y.1, y.2.1 ++ [(0, 0, [])], (pkM code y.2.2.1 y.2.2.2 2).2) else (y.1, y.2.1, (pkM code y.2.2.1 y.2.2.2 2).2) := by rw [filM]
                  clear h10 i1 h3
                  repeat' (first
                    | exact trivial
                    | (refine inWO ?_; first
                      | refine WO_runE (nw := true) rfl rfl ?_ ?_
                      | refine WO_runG (nw := true) rfl rfl rfl rfl rfl ?_ ?_
                      | refine WO_runU (nw := true) rfl rfl rfl rfl rfl ?_ ?_
                      | refine WO_run1 (nw := true) rfl rfl ?_ ?_
                      | refine WO_cons rfl ?_
                      | refine WO_gT rfl rfl rfl rfl rfl ?_
                      | (refine WO_split rfl rfl rfl rfl ?_ ?_ <;> intro hq <;> try (exfalso; (simp_all) <;> omega))
                      | refine WO_nil ?_)
                    | (refine inRW ?_; first
                      | refine RW_runE (nw := true) rfl rfl (fun _ _ => rfl) rfl ?_ ?_
                      | refine RW_runG (nw := true) rfl rfl rfl rfl rfl (fun _ _ => rfl) rfl ?_ ?_
                      | refine RW_runU (nw := true) rfl rfl rfl rfl rfl (fun _ _ => rfl) rfl ?_ ?_
                      | refine RW_op (us := ?_) (ub := ?_) (fp := ?_) rfl (fun s0 b0 => ?_) ?_ ?_
                      | refine RW_opT (us := ?_) (ub := ?_) (fp := ?_) rfl rfl rfl rfl (fun s0 b0 => ?_) ?_ ?_
                      | (refine RW_split rfl rfl rfl ?_ ?_ <;> intro hq <;> try (exfalso; (simp_all) <;> omega))
                      | refine RW_nil ?_ (by first | decide +kernel | kernel_rfl))
                    | (refine gate 1 rfl ?_; first
                      | refine callB (i3) rfl rfl rfl rfl rfl rfl rfl rfl rfl ⟨rfl, trivial⟩ ⟨rfl, rfl, rfl, trivial⟩ rfl rfl rfl rfl rfl rfl rfl rfl ?_)
                    | (refine gate 5 rfl ?_; first
                      | refine litW rfl rfl rfl rfl rfl rfl ?_)
                    | (refine gate 2 rfl ?_; first
                      | refine apOS rfl rfl rfl rfl rfl rfl rfl rfl rfl rfl rfl ?_ ?_ ?_
                      | refine apOL rfl rfl rfl rfl rfl rfl rfl rfl rfl rfl rfl rfl ?_ ?_ ?_
                      | refine apNS rfl rfl rfl rfl rfl rfl rfl rfl rfl rfl rfl ?_ ?_ ?_
                      | refine apNL rfl rfl rfl rfl rfl rfl rfl rfl rfl rfl rfl rfl ?_ ?_ ?_
                      | refine apDO rfl rfl rfl rfl rfl rfl rfl rfl rfl rfl rfl rfl rfl rfl ?_ ?_ ?_
                      | refine apDN rfl rfl rfl rfl rfl rfl rfl rfl rfl rfl rfl rfl rfl rfl ?_ ?_ ?_
                      | refine op_apMk _ rfl rfl rfl rfl rfl rfl rfl rfl rfl rfl rfl rfl rfl ?_ ?_ ?_ ?_
                      | refine apDS rfl rfl rfl rfl rfl rfl rfl rfl rfl rfl rfl ?_ ?_ ?_)
                    | (refine gate 6 rfl ?_; refine mkS rfl rfl rfl rfl rfl rfl rfl rfl rfl rfl rfl rfl rfl ?_ ?_ ?_ ?_)
                    | (refine gate 6 rfl ?_; refine op_makeD _ rfl rfl rfl rfl rfl rfl rfl rfl rfl rfl rfl rfl rfl ?_ ?_ ?_ ?_)
                    | (refine gate 0 rfl ?_; refine op_storeD rfl rfl rfl rfl rfl rfl rfl rfl rfl rfl ?_)
                    | (refine gate 3 rfl ?_; refine op_capN rfl rfl rfl rfl rfl ?_)
                    | (refine gate 3 rfl ?_; refine op_copy rfl rfl rfl rfl rfl rfl rfl rfl rfl rfl rfl ?_)
                    | (refine gate 8 rfl ?_; refine op_mkFn rfl rfl rfl rfl ?_)
                    | (refine gate 7 rfl ?_; refine op_nil rfl rfl rfl rfl rfl rfl (fun b hb => ?_))
                    | (refine inW ?_; first
                      | refine W_seq ?_
                      | refine W_region ?_
                      | refine W_drawN (by decide +kernel) ?_
                      | refine W_block ?_
                      | refine W_skip ?_
                      | refine W_exit ?_
                      | refine W_ret ?_
                      | refine W_condT rfl rfl ?_
                      | refine W_condF rfl rfl ?_
                      | (refine W_condB rfl ?_ ?_ <;> intro hq <;> try (exfalso; (simp_all) <;> omega)))
                    | (refine inE ?_; first
                      | refine end_d rfl rfl rfl rfl ?_ ?_
                      | refine end_o rfl rfl rfl rfl ?_ ?_
                      | refine end_of rfl rfl rfl ?_ ?_)
                    | refine rsOne ?_
                    | refine msPd rfl ?_
                    | refine msPn ?_
                    | refine msPo rfl ?_
                    | refine And.intro ?_ ?_
                    | (show List.length _ ≠ 1; simp)
                    | (show (_ : Int) ≤ _; first | omega | (simp [IntKind.bits, dflt]; done) | (simp [IntKind.bits, dflt]; omega) | (simp at *; omega))
                    | (show (_ : Int) < _; first | omega | (simp [IntKind.bits, dflt]; done) | (simp [IntKind.bits, dflt]; omega) | (simp at *; omega))
                    | (show (_ : Nat) ≤ _; first | omega | (unfold maxLen; omega) | (simp [IntKind.bits, dflt]; done) | (simp [IntKind.bits, dflt]; omega) | (simp at *; omega))
                    | rfl)
                  · show y.2.1.length + 1 ≤ maxLen
                    unfold maxLen; omega
                  · have h11 : (y.2.1.length : Int) < 6 + (pkM code y.2.2.1 y.2.2.2 2).1 := of_decide_eq_true hq
                    rw [if_pos h11] at hfil
                    refine ⟨(f', (y.1, y.2.1 ++ [(0, 0, [])], (pkM code y.2.2.1 y.2.2.2 2).2)), Nat.lt_succ_self f', ⟨by simp only; omega, by simp only [List.length_append, List.length_cons, List.length_nil]; omega, by simp only [List.length_append, List.length_cons, List.length_nil]; omega, i2.next h8.a0 (by omega), by simp only; omega, hfil.symm⟩, Wk_tmpl [(900001, 68000)] ⟨rfl, rfl, rfl, trivial⟩ ⟨rfl, rfl, rfl, rfl, rfl, trivial⟩ rfl rfl⟩
                  all_goals rw [if_neg (of_decide_eq_false hq)] at hfil
                  all_goals first
                    | (rw [hfil]; done)
                    | (refine congrArg (fun r => some (Ob.rows 28 TEd true r)) ?_; rw [hfil])
              · rw [if_neg k1] at hr
                subst hr
                repeat' (first
                  | exact trivial
                  | (refine inWO ?_; first
                    | refine WO_runE (nw := true) rfl rfl ?_ ?_
                    | refine WO_runG (nw := true) rfl rfl rfl rfl rfl ?_ ?_
                    | refine WO_runU (nw := true) rfl rfl rfl rfl rfl ?_ ?_
                    | refine WO_run1 (nw := true) rfl rfl ?_ ?_
                    | refine WO_cons rfl ?_
                    | refine WO_gT rfl rfl rfl rfl rfl ?_
                    | (refine WO_split rfl rfl rfl rfl ?_ ?_ <;> intro hq <;> try (exfalso; (simp_all) <;> omega))
                    | refine WO_nil ?_)
                  | (refine inRW ?_; first
                    | refine RW_runE (nw := true) rfl rfl (fun _ _ => rfl) rfl ?_ ?_
                    | refine RW_runG (nw := true) rfl rfl rfl rfl rfl (fun _ _ => rfl) rfl ?_ ?_
                    | refine RW_runU (nw := true) rfl rfl rfl rfl rfl (fun _ _ => rfl) rfl ?_ ?_
                    | refine RW_op (us := ?_) (ub := ?_) (fp := ?_) rfl (fun s0 b0 => ?_) ?_ ?_
                    | refine RW_opT (us := ?_) (ub := ?_) (fp := ?_) rfl rfl rfl rfl (fun s0 b0 => ?_) ?_ ?_
                    | (refine RW_split rfl rfl rfl ?_ ?_ <;> intro hq <;> try (exfalso; (simp_all) <;> omega))
                    | refine RW_nil ?_ (by first | decide +kernel | kernel_rfl))
                  | (refine gate 1 rfl ?_; first
                    | refine callB (h3) rfl rfl rfl rfl rfl rfl rfl rfl rfl ⟨rfl, trivial⟩ ⟨rfl, rfl, rfl, trivial⟩ rfl rfl rfl rfl rfl rfl rfl rfl ?_)
                  | (refine gate 5 rfl ?_; first
                    | refine litR rfl rfl rfl rfl rfl rfl rfl rfl ?_
                    | refine litW rfl rfl rfl rfl rfl rfl ?_)
                  | (refine gate 2 rfl ?_; first
                    | refine apOS rfl rfl rfl rfl rfl rfl rfl rfl rfl rfl rfl ?_ ?_ ?_
                    | refine apOL rfl rfl rfl rfl rfl rfl rfl rfl rfl rfl rfl rfl ?_ ?_ ?_
                    | refine apNS rfl rfl rfl rfl rfl rfl rfl rfl rfl rfl rfl ?_ ?_ ?_
                    | refine apNL rfl rfl rfl rfl rfl rfl rfl rfl rfl rfl rfl rfl ?_ ?_ ?_
                    | refine apDO rfl rfl rfl rfl rfl rfl rfl rfl rfl rfl rfl rfl rfl rfl ?_ ?_ ?_
                    | refine apDN rfl rfl rfl rfl rfl rfl rfl rfl rfl rfl rfl rfl rfl rfl ?_ ?_ ?_
                    | refine op_apMk _ rfl rfl rfl rfl rfl rfl rfl rfl rfl rfl rfl rfl rfl ?_ ?_ ?_ ?_
                    | refine apDS rfl rfl rfl rfl rfl rfl rfl rfl rfl rfl rfl ?_ ?_ ?_)
                  | (refine gate 6 rfl ?_; refine mkS rfl rfl rfl rfl rfl rfl rfl rfl rfl rfl rfl rfl rfl ?_ ?_ ?_ ?_)
                  | (refine gate 6 rfl ?_; refine op_makeD _ rfl rfl rfl rfl rfl rfl rfl rfl rfl rfl rfl rfl rfl ?_ ?_ ?_ ?_)
                  | (refine gate 0 rfl ?_; refine op_storeD rfl rfl rfl rfl rfl rfl rfl rfl rfl rfl ?_)
                  | (refine gate 3 rfl ?_; refine op_capN rfl rfl rfl rfl rfl ?_)
                  | (refine gate 3 rfl ?_; refine op_copy rfl rfl rfl rfl rfl rfl rfl rfl rfl rfl rfl ?_)
                  | (refine gate 8 rfl ?_; refine op_mkFn rfl rfl rfl rfl ?_)
                  | (refine gate 7 rfl ?_; refine op_nil rfl rfl rfl rfl rfl rfl (fun b hb => ?_))
                  | (refine inW ?_; first
                    | refine W_seq ?_
                    | refine W_region ?_
                    | refine W_drawN (by decide +kernel) ?_
                    | refine W_block ?_
                    | refine W_skip ?_
                    | refine W_exit ?_
                    | refine W_ret ?_
                    | refine W_condT rfl rfl ?_
                    | refine W_condF rfl rfl ?_
                    | (refine W_condB rfl ?_ ?_ <;> intro hq <;> try (exfalso; (simp_all) <;> omega)))
                  | (refine inE ?_; first
                    | refine end_d rfl rfl rfl rfl ?_ ?_
                    | refine end_o rfl rfl rfl rfl ?_ ?_
                    | refine end_of rfl rfl rfl ?_ ?_)
                  | refine rsOne ?_
                  | refine msPd rfl ?_
                  | refine msPn ?_
                  | refine msPo rfl ?_
                  | refine And.intro ?_ ?_
                  | (show List.length _ ≠ 1; simp)
                  | (show (_ : Int) ≤ _; first | omega | (simp [IntKind.bits, dflt]; done) | (simp [IntKind.bits, dflt]; omega) | (simp at *; omega))
                  | (show (_ : Int) < _; first | omega | (simp [IntKind.bits, dflt]; done) | (simp [IntKind.bits, dflt]; omega) | (simp at *; omega))
                  | (show (_ : Nat) ≤ _; first | omega | (unfold maxLen; omega) | (simp [IntKind.bits, dflt]; done) | (simp [IntKind.bits, dflt]; omega) | (simp at *; omega))
                  | rfl)
end Go.LX
