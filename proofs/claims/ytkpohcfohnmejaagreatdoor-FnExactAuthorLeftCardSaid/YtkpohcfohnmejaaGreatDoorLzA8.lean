/- A part of the proof of the statement in the row text. -/
import Derived.Test.YtkpohcfohnmejaaGreatDoorLzA7
import Derived.Test.YtkpohcfohnmejaaGreatDoorLxStpL
set_option linter.unusedVariables false
set_option linter.unusedSimpArgs false
namespace Go.LX
open Go.Proofs
attribute [local irreducible] W WO OpW RW EndQ
theorem docB_eq (d : Dc) (hg : (decide ((d.2.2.1.length : Int) ≤ 60) && (clkB d.2.2.2.1 && (decide ((d.2.2.2.2.1.length : Int) ≤ 8) && lesB d.2.2.2.2.2))) = true) (h : tokM d.1 = true) (hn : (dos d.1 (logE d.2.2.1)).2 = d.2.2.1.length ∧ (dos d.1 (logE d.2.2.1)).1 = d.2.1) : docB d = ((List.range d.2.2.1.length).all (fun i => ssB (d.2.2.1.getD i (dflt TCm)).1) && ((List.range d.2.2.2.2.1.length).all (okM d.2.1 d.2.2.2.2.1) && (List.range d.2.2.2.2.2.length).all (okH d.2.1 d.2.2.2.1 d.2.2.2.2.2))) := by
  simp only [Bool.and_eq_true] at hg
  obtain ⟨g1, g2, g3, g4⟩ := hg
  rw [docB, cmsB, mbsB, helB, h, g1, g2, g3, g4, hn.1, hn.2, all_at (xs := d.2.2.1) (dflt TCm)]
  simp only [decide_true, Bool.true_and, Bool.and_true]
theorem docB_no (d : Dc) (h : docB d = true) : (decide ((d.2.2.1.length : Int) ≤ 60) && (clkB d.2.2.2.1 && (decide ((d.2.2.2.2.1.length : Int) ≤ 8) && lesB d.2.2.2.2.2))) = true ∧ tokM d.1 = true ∧ (dos d.1 (logE d.2.2.1)).2 = d.2.2.1.length ∧ (dos d.1 (logE d.2.2.1)).1 = d.2.1 := by
  simp only [docB, cmsB, mbsB, helB, Bool.and_eq_true, decide_eq_true_eq] at h ⊢
  exact ⟨⟨h.2.1.1, h.2.2.1, h.2.2.2.1.1, h.2.2.2.2.1⟩, h.1, h.2.1.2.2.1, h.2.1.2.2.2⟩
theorem docB_off {d : Dc} (h : ¬ docB d = true) : docB d = false := by simpa using h
set_option maxHeartbeats 4000000 in
set_option maxRecDepth 20000 in
theorem docok_ok (d : Dc) (hw : bn 1048576 TDc d) : FnC Tryz.prog 43 [aDc d] [aDc0] (.one (sB (docB d))) := by
  obtain ⟨s, t, log, clk, ms, ls⟩ := d
  obtain ⟨⟨b1, _⟩, ⟨b2, _⟩, b3, _, b5, b6⟩ := hw
  have k1 := l07clock_ok clk
  have k2 := leasesok_ok ls (Nat.le_trans b6.1 (by decide))
  have l3 := b3.1
  have l5 := b5.1
  simp only at b1 b2 l3 l5
  by_cases hg : (decide ((log.length : Int) ≤ 60) && (clkB clk && (decide ((ms.length : Int) ≤ 8) && lesB ls))) = true
  · have hg0 := hg
    simp only [Bool.and_eq_true, decide_eq_true_eq] at hg
    obtain ⟨g1, g2, g3, g4⟩ := hg
    rw [g2] at k1
    rw [g4] at k2
    have k3 := l10log_ok (s, t, log, clk, ms, ls) (by simp only; omega) b3
    have l4 := dos_n (es := logE log) (t := s)
    rw [logE_len] at l4
    cases h : tokM s with
    | false =>
      rw [docB_off fun hd => by rw [(docB_no _ hd).2.1] at h; cases h]
      have k4 := seditsdo_no s (logE log) (by omega) h
      refine FnC_of (fn := Tryz.f43) Tryz.func43 rfl rfl rfl ?_
      have zD1 := fun (zh : True) => k1
      have zD2 := fun (zh : True) => k2
      have zD3 := fun (zh : True) => k3
      have zE1 := fun (zh : True) => k4
      refine stp ?_ ?_ ?_ ?_ ?_ ?_ ?_ ?_ ?_ ?_ ?_ ?_ ?_ ?_ ?_ ?_ <;> (first | exact Mk.mk | exact trivial | (repeat intro hq))
    | true =>
      have k4 := seditsdo_ok s (logE log) (by omega) (by rw [logE_len]; omega) (logE_bn b3) h
      by_cases hn : (dos s (logE log)).2 = log.length ∧ (dos s (logE log)).1 = t
      · rw [docB_eq (s, t, log, clk, ms, ls) hg0 h hn]
        have ht := dos_tok (es := logE log) (t := s) (by omega) h
        rw [hn.1, hn.2] at k4
        rw [hn.2] at ht
        have lt := tokM_len ht
        simp only
        refine FnC_of (fn := Tryz.f43) Tryz.func43 rfl rfl rfl ?_
        have zD1 := fun (zh : True) => k1
        have zD2 := fun (zh : True) => k2
        have zD3 := fun (zh : True) => k3
        have zE1 := fun (zh : True) => k4
        refine stp ?_ ?_ ?_ ?_ ?_ ?_ ?_ ?_ ?_ ?_ ?_ ?_ ?_ ?_ ?_ ?_ <;> (first | exact Mk.mk | exact trivial | (repeat intro hq))
        clear k1 k2 k3 k4
        refine W_loopT (fun i : Nat => St.tmpl 187 [(1, .one (.rf 2000 (.pb 0))), (5, .one (.d (.i .i64) (i : Int)))] [(2000, .cells [.d (.sl .u8) s, .d (.sl .u8) t, .d (.sl TCm) log, .d (.i .i64) clk, .d (.sl TMb) ms, .d (.sl TLe) ls])]) (fun i => i ≤ log.length ∧ ∀ j, j < i → ssB (log.getD j (dflt TCm)).1 = true) (fun i => log.length - i) 0 ⟨Nat.zero_le _, fun j h => absurd h (Nat.not_lt_zero _)⟩ ?_ ?_
        · exact Wk_tmpl [] ⟨rfl, rfl, trivial⟩ ⟨rfl, trivial⟩ rfl rfl
        · rintro i ⟨hi, hj⟩
          rcases Nat.lt_or_ge i log.length with hlt | hge
          · skip
            have zD1 := fun {z0} (zh : True) => sess10_ok z0
            refine stp ?_ ?_ ?_ ?_ ?_ ?_ ?_ ?_ ?_ ?_ ?_ ?_ ?_ ?_ ?_ ?_ <;> (first | exact Mk.mk | exact trivial | (repeat intro hq))
            · rw [all_stop hlt ((Bool.not_eq_true' _).mp hq)]; rfl
            · exact ⟨i + 1, by omega, ⟨by omega, all_more hj ((Bool.not_eq_false' _).mp hq)⟩, Wk_tmpl [] ⟨rfl, rfl, trivial⟩ ⟨rfl, trivial⟩ rfl rfl⟩
          · obtain rfl : i = log.length := by omega
            rw [all_go hj, Bool.true_and]
            clear hj
            refine stp ?_ ?_ ?_ ?_ ?_ ?_ ?_ ?_ ?_ ?_ ?_ ?_ ?_ ?_ ?_ ?_ <;> (first | exact Mk.mk | exact trivial | (repeat intro hq))
            refine W_loopT (fun i : Nat => St.tmpl 187 [(1, .one (.rf 2000 (.pb 0))), (6, .one (.d (.i .i64) (i : Int)))] [(2000, .cells [.d (.sl .u8) s, .d (.sl .u8) t, .d (.sl TCm) log, .d (.i .i64) clk, .d (.sl TMb) ms, .d (.sl TLe) ls])]) (fun i => i ≤ ms.length ∧ ∀ j, j < i → okM t ms j = true) (fun i => ms.length - i) 0 ⟨Nat.zero_le _, fun j h => absurd h (Nat.not_lt_zero _)⟩ ?_ ?_
            · exact Wk_tmpl [] ⟨rfl, rfl, trivial⟩ ⟨rfl, trivial⟩ rfl rfl
            · rintro i ⟨hi, hj⟩
              rcases Nat.lt_or_ge i ms.length with hlt | hge
              · have e := okM_int t ms i
                have hm : bn 1048576 TMb (ms.getD (i : Int).toNat (dflt TMb)) := bn_get b5 i
                obtain ⟨_, _, ⟨u1, u2⟩, v1, v2⟩ := hm
                have k1 := fun x : Int × Int => selok_ok t x ht
                have k2 := stackok_ok (ms.getD (i : Int).toNat (dflt TMb)).2.2.1 (ms.getD (i : Int).toNat (dflt TMb)).2.2.2 (Nat.le_trans u1 (by decide)) (Nat.le_trans v1 (by decide))
                have k3 := l10fitall_ok t (ms.getD (i : Int).toNat (dflt TMb)).2.2.1 ht (Nat.le_trans u1 (by decide)) (fun e he => Nat.le_trans (u2 e he).2.2.1 (by decide))
                have k4 := l10fitall_ok t (ms.getD (i : Int).toNat (dflt TMb)).2.2.2 ht (Nat.le_trans v1 (by decide)) (fun e he => Nat.le_trans (v2 e he).2.2.1 (by decide))
                skip
                have zD1 := fun {z0} (zh : True) => sess10_ok z0
                have zD2 := fun {z0} (zh : True) => k1 z0
                have zD3 := fun (zh : True) => k2
                have zD4 := fun (zh : True) => k3
                have zD5 := fun (zh : True) => k4
                refine stpM ?_ ?_ ?_ ?_ ?_ ?_ ?_ ?_ ?_ ?_ ?_ ?_ ?_ ?_ ?_ ?_ ?_ ?_ ?_ ?_ ?_ ?_ ?_ ?_ ?_ ?_ ?_ ?_ <;> (first | exact Mk.mk | exact trivial | (repeat intro hq))
                all_goals
                  clear k1 k2 k3 k4 u2 v2
                  generalize ms.getD (i : Int).toNat (dflt TMb) = m at *
                  generalize (ms.getD ((i : Int) - 1).toNat (dflt TMb)).1 = p at *
                  generalize allS m.2.2.1 = b4 at *
                  generalize allS m.2.2.2 = b5 at *
                  generalize cutB t m.2.1.1 = b6 at *
                  generalize cutB t m.2.1.2 = b7 at *
                  generalize List.all m.2.2.1 _ = b8 at *
                  generalize List.all m.2.2.2 _ = b9 at *
                all_goals first
                  | (refine ⟨i + 1, by omega, ⟨by omega, all_more hj ?_⟩, Wk_tmpl [] ⟨rfl, rfl, trivial⟩ ⟨rfl, trivial⟩ rfl rfl⟩
                     rw [e]
                     clear e hj
                     cases b4 <;> cases b5 <;> cases b6 <;> cases b7 <;> simp_all
                     done)
                  | (rw [all_stop hlt ?_, Bool.false_and]
                     rw [e]
                     clear e hj
                     cases b4 <;> cases b5 <;> cases b6 <;> cases b7 <;> simp_all
                     done)
              · obtain rfl : i = ms.length := by omega
                rw [all_go hj, Bool.true_and]
                clear hj
                refine stp ?_ ?_ ?_ ?_ ?_ ?_ ?_ ?_ ?_ ?_ ?_ ?_ ?_ ?_ ?_ ?_ <;> (first | exact Mk.mk | exact trivial | (repeat intro hq))
                refine W_loopT (fun i : Nat => St.tmpl 187 [(1, .one (.rf 2000 (.pb 0))), (8, .one (.d (.i .i64) (i : Int)))] [(2000, .cells [.d (.sl .u8) s, .d (.sl .u8) t, .d (.sl TCm) log, .d (.i .i64) clk, .d (.sl TMb) ms, .d (.sl TLe) ls])]) (fun i => i ≤ ls.length ∧ ∀ j, j < i → okH t clk ls j = true) (fun i => ls.length - i) 0 ⟨Nat.zero_le _, fun j h => absurd h (Nat.not_lt_zero _)⟩ ?_ ?_
                · exact Wk_tmpl [] ⟨rfl, rfl, trivial⟩ ⟨rfl, trivial⟩ rfl rfl
                · rintro i ⟨hi, hj⟩
                  rcases Nat.lt_or_ge i ls.length with hlt | hge
                  · have e : okH t clk ls i = ((decide (clk < (ls.getD (i : Int).toNat (dflt TLe)).2.2.2) && (cutB t (ls.getD (i : Int).toNat (dflt TLe)).1 && cutB t (ls.getD (i : Int).toNat (dflt TLe)).2.1)) && (List.range i).all fun k => apartB (ls.getD k (dflt TLe)) (ls.getD (i : Int).toNat (dflt TLe))) := rfl
                    have k1 := fun a => cutok_t ht a
                    have l6 := b6.1
                    skip
                    have zD1 := fun {z0} (zh : True) => k1 z0
                    refine stp ?_ ?_ ?_ ?_ ?_ ?_ ?_ ?_ ?_ ?_ ?_ ?_ ?_ ?_ ?_ ?_ <;> (first | exact Mk.mk | exact trivial | (repeat intro hq))
                    all_goals try
                      (refine (all_stop hlt ?_).symm
                       rw [e]
                       refine Bool.and_eq_false_iff.2 (.inl ?_)
                       clear e hj k1
                       generalize ls.getD (i : Int).toNat (dflt TLe) = l at *
                       (first | (simp_all; done) | (simp_all; omega) | (simp_all; intros; omega)))
                    have hg : (decide (clk < (ls.getD (i : Int).toNat (dflt TLe)).2.2.2) && (cutB t (ls.getD (i : Int).toNat (dflt TLe)).1 && cutB t (ls.getD (i : Int).toNat (dflt TLe)).2.1)) = true := by
                      clear e hj k1
                      generalize ls.getD (i : Int).toNat (dflt TLe) = l at *
                      (first | (simp_all; done) | (simp_all; omega) | (simp_all; intros; omega))
                    rw [hg, Bool.true_and] at e
                    clear hg k1
                    refine W_loopT (fun k : Nat => St.tmpl 187 [(1, .one (.rf 2000 (.pb 0))), (8, .one (.d (.i .i64) (i : Int))), (9, .one (.rf 10000 (.pb 0))), (10, .one (.d (.i .i64) (k : Int)))] [(2000, .cells [.d (.sl .u8) s, .d (.sl .u8) t, .d (.sl TCm) log, .d (.i .i64) clk, .d (.sl TMb) ms, .d (.sl TLe) ls]), (10000, .cells [.d (.i .i64) (ls.getD (i : Int).toNat (dflt TLe)).1, .d (.i .i64) (ls.getD (i : Int).toNat (dflt TLe)).2.1, .d (.i .i64) (ls.getD (i : Int).toNat (dflt TLe)).2.2.1, .d (.i .i64) (ls.getD (i : Int).toNat (dflt TLe)).2.2.2])]) (fun k => k ≤ i ∧ ∀ j, j < k → apartB (ls.getD j (dflt TLe)) (ls.getD (i : Int).toNat (dflt TLe)) = true) (fun k => i - k) 0 ⟨Nat.zero_le _, fun j h => absurd h (Nat.not_lt_zero _)⟩ ?_ ?_
                    · exact Wk_tmpl [] ⟨rfl, rfl, rfl, rfl, trivial⟩ ⟨rfl, rfl, trivial⟩ rfl rfl
                    · rintro k ⟨hk, hkj⟩
                      rcases Nat.lt_or_ge k i with klt | kge
                      · have ea : apartB (ls.getD k (dflt TLe)) (ls.getD (i : Int).toNat (dflt TLe)) = !(!decide ((ls.getD (k : Int).toNat (dflt TLe)).2.2.1 = (ls.getD (i : Int).toNat (dflt TLe)).2.2.1) && meetB (ls.getD (k : Int).toNat (dflt TLe)) (ls.getD (i : Int).toNat (dflt TLe))) := rfl
                        skip
                        have zD1 := fun {z0} {z1} (zh : True) => l07meet_ok z0 z1
                        refine stp ?_ ?_ ?_ ?_ ?_ ?_ ?_ ?_ ?_ ?_ ?_ ?_ ?_ ?_ ?_ ?_ <;> (first | exact Mk.mk | exact trivial | (repeat intro hq))
                        · rename_i q1 q2
                          rw [cond_true] at hq
                          rw [q2, hq] at ea
                          refine (all_stop hlt ?_).symm
                          rw [e]
                          exact all_stop klt ea
                        · rename_i q1 q2
                          rw [cond_true] at hq
                          rw [q2, hq] at ea
                          exact ⟨k + 1, by omega, ⟨by omega, all_more hkj ea⟩, Wk_tmpl [] ⟨rfl, rfl, rfl, rfl, trivial⟩ ⟨rfl, rfl, trivial⟩ rfl rfl⟩
                        · rw [hq] at ea
                          exact ⟨k + 1, by omega, ⟨by omega, all_more hkj ea⟩, Wk_tmpl [] ⟨rfl, rfl, rfl, rfl, trivial⟩ ⟨rfl, rfl, trivial⟩ rfl rfl⟩
                      · obtain rfl : k = i := by omega
                        refine stp ?_ ?_ ?_ ?_ ?_ ?_ ?_ ?_ ?_ ?_ ?_ ?_ ?_ ?_ ?_ ?_ <;> (first | exact Mk.mk | exact trivial | (repeat intro hq))
                        exact ⟨k + 1, by omega, ⟨by omega, all_more hj (by rw [e, all_go hkj])⟩, Wk_tmpl [] ⟨rfl, rfl, trivial⟩ ⟨rfl, trivial⟩ rfl rfl⟩
                  · obtain rfl : i = ls.length := by omega
                    refine stp ?_ ?_ ?_ ?_ ?_ ?_ ?_ ?_ ?_ ?_ ?_ ?_ ?_ ?_ ?_ ?_ <;> (first | exact Mk.mk | exact trivial | (repeat intro hq))
                    exact (all_go hj).symm
      · rw [docB_off fun hd => hn (docB_no _ hd).2.2]
        refine FnC_of (fn := Tryz.f43) Tryz.func43 rfl rfl rfl ?_
        have zD1 := fun (zh : True) => k1
        have zD2 := fun (zh : True) => k2
        have zD3 := fun (zh : True) => k3
        have zE1 := fun (zh : True) => k4
        refine stp ?_ ?_ ?_ ?_ ?_ ?_ ?_ ?_ ?_ ?_ ?_ ?_ ?_ ?_ ?_ ?_ <;> (first | exact Mk.mk | exact trivial | (repeat intro hq))
  · rw [docB_off fun hd => hg (docB_no _ hd).1]
    refine FnC_of (fn := Tryz.f43) Tryz.func43 rfl rfl rfl ?_
    have zD1 := fun (zh : True) => k1
    have zD2 := fun (zh : True) => k2
    refine stp ?_ ?_ ?_ ?_ ?_ ?_ ?_ ?_ ?_ ?_ ?_ ?_ ?_ ?_ ?_ ?_ <;> (first | exact Mk.mk | exact trivial | (repeat intro hq))
end Go.LX
