/- A part of the proof of the statement in the row text. -/
import Derived.Test.YtkpohcfohnmejaaGreatDoorLzAA
import Derived.Test.YtkpohcfohnmejaaGreatDoorLxStpL
set_option linter.unusedVariables false
set_option linter.unusedSimpArgs false
namespace Go.LX
open Go.Proofs
attribute [local irreducible] W WO OpW RW EndQ
set_option maxHeartbeats 4000000 in
set_option maxRecDepth 20000 in
theorem l10version_ok (d : Dc) (v : Int) (hw : bn 1048576 TDc d) : FnC Tryz.prog 62 [aDc d, aI v] [aDc0, aX] (.one (sB (docB d && (decide (0 ≤ v) && decide (v ≤ d.2.2.1.length))))) := by
  have k1 := docok_ok d hw
  have l3 := hw.2.2.1.1
  refine FnC_of (fn := Tryz.f62) Tryz.func62 rfl rfl rfl ?_
  have zD1 := fun (zh : True) => k1
  refine stp ?_ ?_ ?_ ?_ ?_ ?_ ?_ ?_ ?_ ?_ ?_ ?_ ?_ ?_ ?_ ?_ <;> (first | exact Mk.mk | exact trivial | (repeat intro hq))
  all_goals (clear k1 zD1)
  all_goals first
    | ((try simp only [cond_true] at *); simp only [Bool.and_true, Bool.true_and, Bool.and_false, Bool.false_and, *]; done)
    | ((try simp only [cond_true] at *); simp [*]; done)
set_option maxHeartbeats 4000000 in
set_option maxRecDepth 20000 in
theorem sauthorsat_ok (d : Dc) (v : Int) (hw : bn 1048576 TDc d) : FnC Tryz.prog 28 [aDc d, aI v] [aDc0, aX] (.one (oIs (auR d v))) := by
  have k1 := l10version_ok d v hw
  unfold auR
  cases h1 : (docB d && (decide (0 ≤ v) && decide (v ≤ d.2.2.1.length))) with
  | false =>
    rw [h1] at k1
    refine FnC_of (fn := Tryz.f28) Tryz.func28 rfl rfl rfl ?_
    have zD1 := fun (zh : True) => k1
    refine stp ?_ ?_ ?_ ?_ ?_ ?_ ?_ ?_ ?_ ?_ ?_ ?_ ?_ ?_ ?_ ?_ <;> (first | exact Mk.mk | exact trivial | (repeat intro hq))
  | true =>
    rw [h1] at k1
    rw [if_pos rfl]
    simp only [Bool.and_eq_true, decide_eq_true_eq] at h1
    obtain ⟨hd, hv⟩ := h1
    obtain ⟨_, hs, hr, _⟩ := docB_no d hd
    obtain ⟨s, t, log, clk, ms, ls⟩ := d
    have ls4 := tokM_len hs
    have l3 := hw.2.2.1.1
    simp only at hs hr ls4 l3 hv
    unfold auD
    simp only
    have hJ := AuJ.init (L := log.take v.toNat) ls4 rfl (by omega) hr
    have hcl : (log.take v.toNat).length = v.toNat := by rw [List.length_take]; omega
    have hat : ∀ i : Nat, i < v.toNat → (log.take v.toNat).getD i (dflt TCm) = log.getD (i : Int).toNat (dflt TCm) := fun i h => take_at h _
    generalize auM (List.replicate s.length 0) (log.take v.toNat) = A at *
    generalize hL : log.take v.toNat = L at *
    refine FnC_of (fn := Tryz.f28) Tryz.func28 rfl rfl rfl ?_
    have zD1 := fun (zh : True) => k1
    refine stp ?_ ?_ ?_ ?_ ?_ ?_ ?_ ?_ ?_ ?_ ?_ ?_ ?_ ?_ ?_ ?_ <;> (first | exact Mk.mk | exact trivial | (repeat intro hq))
    refine W_loopT (fun q : Nat × List Int × List UInt8 => St.tmpl 61 [(1, .one (.d (.i .i64) v)), (2, .one (.rf 3000 (.pb 0))), (5, .one (.rf 18000 .ar)), (6, .one (.d (.i .i64) (q.1 : Int)))] [(3000, .cells [.d (.sl .u8) s, .d (.sl .u8) t, .d (.sl TCm) log, .d (.i .i64) clk, .d (.sl TMb) ms, .d (.sl TLe) ls]), (18000, .rows 3 (.i .i64) false q.2.1)]) (AuJ L A) (fun q => L.length - q.1) (0, List.replicate s.length 0, s) hJ ?_ ?_
    · exact Wk_tmpl [] ⟨rfl, rfl, rfl, rfl, trivial⟩ ⟨rfl, rfl, trivial⟩ rfl rfl
    · rintro ⟨i, out, u⟩ hJ
      rcases Nat.lt_or_ge i L.length with hlt | hge
      · obtain ⟨k1, k2⟩ := hJ.next hlt
        obtain ⟨e1, e2, e3⟩ := eok_in k1
        obtain ⟨h1, h2, h3, _, _⟩ := hJ
        simp only at h1 h2 h3 ⊢
        have hc2 := hat i (by omega)
        rw [hc2] at k2 e1 e2 e3
        skip
        refine stp ?_ ?_ ?_ ?_ ?_ ?_ ?_ ?_ ?_ ?_ ?_ ?_ ?_ ?_ ?_ ?_ <;> (first | exact Mk.mk | exact trivial | (repeat intro hq))
        · simp only [cutH, cutL, List.length_take, List.length_drop, List.length_nil]; unfold maxLen; omega
        refine W_loopT (fun k : Nat => St.tmpl 61 [(1, .one (.d (.i .i64) v)), (2, .one (.rf 3000 (.pb 0))), (5, .one (.rf 18000 .ar)), (6, .one (.d (.i .i64) (i : Int))), (7, .one (.rf 8000 (.pb 0))), (8, .one (.rf 35000 .ar)), (9, .one (.d (.i .i64) (k : Int)))] [(3000, .cells [.d (.sl .u8) s, .d (.sl .u8) t, .d (.sl TCm) log, .d (.i .i64) clk, .d (.sl TMb) ms, .d (.sl TLe) ls]), (18000, .rows 3 (.i .i64) false out), (8000, .cells [.d (.i .i64) (log.getD (i : Int).toNat (dflt TCm)).2.1, .d (.i .i64) (log.getD (i : Int).toNat (dflt TCm)).2.2.1, .d (.sl .u8) (log.getD (i : Int).toNat (dflt TCm)).2.2.2]), (35000, .rows 3 (.i .i64) false (out.take (log.getD (i : Int).toNat (dflt TCm)).2.1.toNat ++ List.replicate k (log.getD (i : Int).toNat (dflt TCm)).1))]) (fun k => k ≤ (log.getD (i : Int).toNat (dflt TCm)).2.2.2.length) (fun k => (log.getD (i : Int).toNat (dflt TCm)).2.2.2.length - k) 0 (Nat.zero_le _) ?_ ?_
        · refine Wk_tmpl [] ⟨rfl, rfl, rfl, rfl, rfl, rfl, rfl, trivial⟩ ⟨rfl, rfl, rfl, ?_, trivial⟩ rfl rfl
          refine congrArg (fun r => some (Ob.rows 3 (.i .i64) false r)) ?_
          simp [cutH, cutL]
        · intro k hk
          have hlen : (out.take (log.getD (i : Int).toNat (dflt TCm)).2.1.toNat ++ List.replicate k (log.getD (i : Int).toNat (dflt TCm)).1).length ≤ 800 := by
            rw [List.length_append, List.length_take, List.length_replicate]; omega
          have hil : i < log.length := by omega
          rcases Nat.lt_or_ge k (log.getD (i : Int).toNat (dflt TCm)).2.2.2.length with klt | kge
          · skip
            refine stp ?_ ?_ ?_ ?_ ?_ ?_ ?_ ?_ ?_ ?_ ?_ ?_ ?_ ?_ ?_ ?_ <;> (first | exact Mk.mk | exact trivial | (repeat intro hq))
            · simp only [List.length_cons, List.length_nil]; unfold maxLen; omega
            · refine ⟨k + 1, by omega, klt, Wk_tmpl [(35000, 51000)] ⟨rfl, rfl, rfl, rfl, rfl, rfl, rfl, trivial⟩ ⟨rfl, rfl, rfl, ?_, trivial⟩ rfl rfl⟩
              refine congrArg (fun r => some (Ob.rows 3 (.i .i64) false r)) ?_
              rw [List.append_assoc, List.replicate_succ']
          · obtain rfl : k = (log.getD (i : Int).toNat (dflt TCm)).2.2.2.length := by omega
            refine stp ?_ ?_ ?_ ?_ ?_ ?_ ?_ ?_ ?_ ?_ ?_ ?_ ?_ ?_ ?_ ?_ <;> (first | exact Mk.mk | exact trivial | (repeat intro hq))
            · simp only [cutH, cutL, List.length_take, List.length_drop]; unfold maxLen; omega
            · refine ⟨(i + 1, auS (log.getD (i : Int).toNat (dflt TCm)).1 (log.getD (i : Int).toNat (dflt TCm)).2 out, doE u (log.getD (i : Int).toNat (dflt TCm)).2), by simp only; omega, k2, Wk_tmpl [(18000, 60000)] ⟨rfl, rfl, rfl, rfl, trivial⟩ ⟨rfl, ?_, trivial⟩ rfl rfl⟩
              refine congrArg (fun r => some (Ob.rows 3 (.i .i64) false r)) ?_
              simp [auS, cutH, cutL]
              exact List.take_of_length_le (by simp)
      · have := hJ.done hge
        have hle := hJ.le
        simp only at hle
        have hi : (i : Int) = v := by omega
        refine stp ?_ ?_ ?_ ?_ ?_ ?_ ?_ ?_ ?_ ?_ ?_ ?_ ?_ ?_ ?_ ?_ <;> (first | exact Mk.mk | exact trivial | (repeat intro hq))
        exact this
set_option maxHeartbeats 4000000 in
set_option maxRecDepth 20000 in
theorem sauthorsall_ok (d : Dc) (hw : bn 1048576 TDc d) : FnC Tryz.prog 33 [aDc d] [aDc0] (.one (oIs (auR d d.2.2.1.length))) := by
  have k1 := sauthorsat_ok d d.2.2.1.length hw
  refine FnC_of (fn := Tryz.f33) Tryz.func33 rfl rfl rfl ?_
  have zD1 := fun (zh : True) => k1
  refine stp ?_ ?_ ?_ ?_ ?_ ?_ ?_ ?_ ?_ ?_ ?_ ?_ ?_ ?_ ?_ ?_ <;> (first | exact Mk.mk | exact trivial | (repeat intro hq))
set_option maxHeartbeats 4000000 in
set_option maxRecDepth 20000 in
theorem sleft_ok (d : Dc) (s : Int) (hw : bn 1048576 TDc d) : FnC Tryz.prog 15 [aDc d, aI s] [aDc0, aX] (.one (sI (if docB d = true then (cntI s (auR d d.2.2.1.length) : Int) else -1))) := by
  have k1 := docok_ok d hw
  cases h1 : docB d with
  | false =>
    rw [h1] at k1
    refine FnC_of (fn := Tryz.f15) Tryz.func15 rfl rfl rfl ?_
    have zD1 := fun (zh : True) => k1
    refine stp ?_ ?_ ?_ ?_ ?_ ?_ ?_ ?_ ?_ ?_ ?_ ?_ ?_ ?_ ?_ ?_ <;> (first | exact Mk.mk | exact trivial | (repeat intro hq))
  | true =>
    rw [h1] at k1
    have k3 := sauthorsall_ok d hw
    have hl := auR_len d d.2.2.1.length
    rw [if_pos rfl]
    generalize auR d d.2.2.1.length = xs at *
    refine FnC_of (fn := Tryz.f15) Tryz.func15 rfl rfl rfl ?_
    have zD1 := fun (zh : True) => k1
    have zD2 := fun (zh : True) => k3
    refine stp ?_ ?_ ?_ ?_ ?_ ?_ ?_ ?_ ?_ ?_ ?_ ?_ ?_ ?_ ?_ ?_ <;> (first | exact Mk.mk | exact trivial | (repeat intro hq))
    refine W_loopT (fun i : Nat => St.tmpl 28 [(1, .one (.d (.i .i64) s)), (5, .one (.rf 13000 .ar)), (6, .one (.d (.i .i64) (cntI s (xs.take i) : Nat))), (7, .one (.d (.i .i64) (i : Int)))] [(13000, .rows 3 (.i .i64) false xs)]) (fun i => i ≤ xs.length) (fun i => xs.length - i) 0 (Nat.zero_le _) ?_ ?_
    · exact Wk_tmpl [] ⟨rfl, rfl, rfl, rfl, trivial⟩ ⟨rfl, trivial⟩ rfl rfl
    · intro i hi
      have hle := cntI_le (s := s) (xs := xs.take i)
      rw [List.length_take] at hle
      rcases Nat.lt_or_ge i xs.length with hlt | hge
      · have ht := cntI_take (s := s) hlt
        have hg : xs.getD i 0 = xs.getD (i : Int).toNat (dflt (.i .i64)) := rfl
        rw [hg] at ht
        skip
        refine stp ?_ ?_ ?_ ?_ ?_ ?_ ?_ ?_ ?_ ?_ ?_ ?_ ?_ ?_ ?_ ?_ <;> (first | exact Mk.mk | exact trivial | (repeat intro hq))
        all_goals
          refine ⟨i + 1, by omega, by omega, Wk_tmpl [] ⟨rfl, rfl, ?_, rfl, trivial⟩ ⟨rfl, trivial⟩ rfl rfl⟩
          refine congrArg (fun r => SV.one (C.d (Ty.i IntKind.i64) r)) ?_
          simp only [decide_eq_true_eq, decide_eq_false_iff_not] at hq
          first | (rw [ht, if_pos hq]; rfl) | (rw [ht, if_neg hq]; rfl)
      · obtain rfl : i = xs.length := by omega
        refine stp ?_ ?_ ?_ ?_ ?_ ?_ ?_ ?_ ?_ ?_ ?_ ?_ ?_ ?_ ?_ ?_ <;> (first | exact Mk.mk | exact trivial | (repeat intro hq))
        rw [List.take_length]
end Go.LX
