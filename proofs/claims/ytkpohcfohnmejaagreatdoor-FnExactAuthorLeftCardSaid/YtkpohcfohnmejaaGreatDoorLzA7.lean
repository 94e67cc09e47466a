/- A part of the proof of the statement in the row text. -/
import Derived.Test.YtkpohcfohnmejaaGreatDoorLzA6
import Derived.Test.YtkpohcfohnmejaaGreatDoorLxStpL
set_option linter.unusedVariables false
set_option linter.unusedSimpArgs false
namespace Go.LX
open Go.Proofs
attribute [local irreducible] W WO OpW RW EndQ
def apartB (a b : Le) : Bool := !(!decide (a.2.2.1 = b.2.2.1) && meetB a b)
def okH (t : List UInt8) (clk : Int) (ls : List Le) (i : Nat) : Bool := (decide (clk < (ls.getD i (dflt TLe)).2.2.2) && (cutB t (ls.getD i (dflt TLe)).1 && cutB t (ls.getD i (dflt TLe)).2.1)) && (List.range i).all fun k => apartB (ls.getD k (dflt TLe)) (ls.getD i (dflt TLe))
def helB (t : List UInt8) (clk : Int) (ls : List Le) : Bool := lesB ls && (List.range ls.length).all (okH t clk ls)
theorem take_at {α : Type} {xs : List α} {i k : Nat} (h : k < i) (d : α) : (xs.take i).getD k d = xs.getD k d := by
  rw [List.getD_eq_getElem?_getD, List.getD_eq_getElem?_getD, List.getElem?_take_of_lt h]
set_option maxHeartbeats 4000000 in
set_option maxRecDepth 20000 in
theorem areheld_ok (t : List UInt8) (clk : Int) (ls : List Le) (hl : t.length ≤ 16777216) (hn : ls.length ≤ 16777216) : FnC Tryz.prog 98 [aLes ls, aBy t, aI clk] [aX, aX, aX] (.one (sB (helB t clk ls))) := by
  have k0 := areleases_ok ls hn
  have k1 := fun a => iscut_ok t a hl
  unfold helB
  cases h0 : lesB ls with
  | false =>
    rw [h0] at k0
    refine FnC_of (fn := Tryz.f98) Tryz.func98 rfl rfl rfl ?_
    have zD1 := fun (zh : True) => k0
    refine stp ?_ ?_ ?_ ?_ ?_ ?_ ?_ ?_ ?_ ?_ ?_ ?_ ?_ ?_ ?_ ?_ <;> (first | exact Mk.mk | exact trivial | (repeat intro hq))
  | true =>
    rw [h0] at k0
    rw [Bool.true_and]
    refine FnC_of (fn := Tryz.f98) Tryz.func98 rfl rfl rfl ?_
    have zD1 := fun (zh : True) => k0
    refine stp ?_ ?_ ?_ ?_ ?_ ?_ ?_ ?_ ?_ ?_ ?_ ?_ ?_ ?_ ?_ ?_ <;> (first | exact Mk.mk | exact trivial | (repeat intro hq))
    refine W_loopT (fun i : Nat => St.tmpl 67 [(0, .one (.d (.sl TLe) ls)), (1, .one (.d (.sl .u8) t)), (2, .one (.d (.i .i64) clk)), (14, .one (.d (.sl TLe) ls)), (15, .one (.d (.i .i64) (ls.length : Nat))), (16, .one (.d (.i .i64) (i : Int)))] []) (fun i => i ≤ ls.length ∧ ∀ j, j < i → okH t clk ls j = true) (fun i => ls.length - i) 0 ⟨Nat.zero_le _, fun j h => absurd h (Nat.not_lt_zero _)⟩ ?_ ?_
    · exact Wk_tmpl [] ⟨rfl, rfl, rfl, rfl, rfl, rfl, trivial⟩ trivial rfl rfl
    · rintro i ⟨hi, hj⟩
      rcases Nat.lt_or_ge i ls.length with hlt | hge
      · have e : okH t clk ls i = ((decide (clk < (ls.getD (i : Int).toNat (dflt TLe)).2.2.2) && (cutB t (ls.getD (i : Int).toNat (dflt TLe)).1 && cutB t (ls.getD (i : Int).toNat (dflt TLe)).2.1)) && (List.range i).all fun k => apartB (ls.getD k (dflt TLe)) (ls.getD (i : Int).toNat (dflt TLe))) := rfl
        have hc : cut none (some (i : Int)) ls = ls.take i := by simp [cut]
        have hcl : (cut none (some (i : Int)) ls).length = i := by rw [hc, List.length_take]; omega
        skip
        have zD1 := fun {z0} {z1} (zh : True) => isactive_ok z0 z1
        have zD2 := fun {z0} (zh : True) => k1 z0
        refine stp ?_ ?_ ?_ ?_ ?_ ?_ ?_ ?_ ?_ ?_ ?_ ?_ ?_ ?_ ?_ ?_ <;> (first | exact Mk.mk | exact trivial | (repeat intro hq))
        all_goals try
          (refine (all_stop hlt ?_).symm
           rw [e]
           refine Bool.and_eq_false_iff.2 (.inl ?_)
           clear e hj k0 k1
           generalize ls.getD (i : Int).toNat (dflt TLe) = l at *
           generalize decide (clk < l.2.2.2) = b0 at *
           simp_all
           done)
        have hg : (decide (clk < (ls.getD (i : Int).toNat (dflt TLe)).2.2.2) && (cutB t (ls.getD (i : Int).toNat (dflt TLe)).1 && cutB t (ls.getD (i : Int).toNat (dflt TLe)).2.1)) = true := by
          clear e hj k0 k1
          generalize ls.getD (i : Int).toNat (dflt TLe) = l at *
          simp_all
        rw [hg, Bool.true_and] at e
        clear hg
        refine W_loopT (fun k : Nat => St.tmpl 67 [(0, .one (.d (.sl TLe) ls)), (1, .one (.d (.sl .u8) t)), (2, .one (.d (.i .i64) clk)), (8, .one (.rf 9000 (.pb 0))), (14, .one (.d (.sl TLe) ls)), (15, .one (.d (.i .i64) (ls.length : Nat))), (16, .one (.d (.i .i64) (i : Int))), (41, .one (.d (.sl TLe) (ls.take i))), (42, .one (.d (.i .i64) (i : Int))), (43, .one (.d (.i .i64) (k : Int)))] [(9000, .cells [.d (.i .i64) (ls.getD (i : Int).toNat (dflt TLe)).1, .d (.i .i64) (ls.getD (i : Int).toNat (dflt TLe)).2.1, .d (.i .i64) (ls.getD (i : Int).toNat (dflt TLe)).2.2.1, .d (.i .i64) (ls.getD (i : Int).toNat (dflt TLe)).2.2.2])]) (fun k => k ≤ i ∧ ∀ j, j < k → apartB (ls.getD j (dflt TLe)) (ls.getD (i : Int).toNat (dflt TLe)) = true) (fun k => i - k) 0 ⟨Nat.zero_le _, fun j h => absurd h (Nat.not_lt_zero _)⟩ ?_ ?_
        · refine Wk_tmpl [] ⟨rfl, rfl, rfl, rfl, rfl, rfl, rfl, ?_, ?_, rfl, trivial⟩ ⟨rfl, trivial⟩ rfl rfl
          · exact congrArg (fun r => SV.one (C.d (.sl TLe) r)) hc
          · refine congrArg (fun r => SV.one (C.d (Ty.i IntKind.i64) r)) ?_
            exact congrArg (fun n : Nat => (n : Int)) hcl
        · rintro k ⟨hk, hkj⟩
          have hti : (ls.take i).length = i := by rw [List.length_take]; omega
          rcases Nat.lt_or_ge k i with klt | kge
          · have hta : (ls.take i).getD (k : Int).toNat (dflt TLe) = ls.getD k (dflt TLe) := take_at klt _
            have ea : apartB (ls.getD k (dflt TLe)) (ls.getD (i : Int).toNat (dflt TLe)) = !(!decide (((ls.take i).getD (k : Int).toNat (dflt TLe)).2.2.1 = (ls.getD (i : Int).toNat (dflt TLe)).2.2.1) && decide (max ((ls.take i).getD (k : Int).toNat (dflt TLe)).1 (ls.getD (i : Int).toNat (dflt TLe)).1 < min ((ls.take i).getD (k : Int).toNat (dflt TLe)).2.1 (ls.getD (i : Int).toNat (dflt TLe)).2.1)) := by
              rw [hta, apartB, meet_max]
            skip
            refine stp ?_ ?_ ?_ ?_ ?_ ?_ ?_ ?_ ?_ ?_ ?_ ?_ ?_ ?_ ?_ ?_ <;> (first | exact Mk.mk | exact trivial | (repeat intro hq))
            · rename_i q1 q2
              rw [cond_true] at hq
              rw [q2, hq] at ea
              refine (all_stop hlt ?_).symm
              rw [e]
              exact all_stop klt ea
            · rename_i q1 q2
              rw [cond_true] at hq
              rw [q2, hq] at ea
              exact ⟨k + 1, by omega, ⟨by omega, all_more hkj ea⟩, Wk_tmpl [] ⟨rfl, rfl, rfl, rfl, rfl, rfl, rfl, rfl, rfl, rfl, trivial⟩ ⟨rfl, trivial⟩ rfl rfl⟩
            · rw [hq] at ea
              exact ⟨k + 1, by omega, ⟨by omega, all_more hkj ea⟩, Wk_tmpl [] ⟨rfl, rfl, rfl, rfl, rfl, rfl, rfl, rfl, rfl, rfl, trivial⟩ ⟨rfl, trivial⟩ rfl rfl⟩
          · obtain rfl : k = i := by omega
            refine stp ?_ ?_ ?_ ?_ ?_ ?_ ?_ ?_ ?_ ?_ ?_ ?_ ?_ ?_ ?_ ?_ <;> (first | exact Mk.mk | exact trivial | (repeat intro hq))
            exact ⟨k + 1, by omega, ⟨by omega, all_more hj (by rw [e, all_go hkj])⟩, Wk_tmpl [] ⟨rfl, rfl, rfl, rfl, rfl, rfl, trivial⟩ trivial rfl rfl⟩
      · obtain rfl : i = ls.length := by omega
        refine stp ?_ ?_ ?_ ?_ ?_ ?_ ?_ ?_ ?_ ?_ ?_ ?_ ?_ ?_ ?_ ?_ <;> (first | exact Mk.mk | exact trivial | (repeat intro hq))
        exact (all_go hj).symm
noncomputable def docB (d : Dc) : Bool := tokM d.1 && (cmsB d && (clkB d.2.2.2.1 && (mbsB d.2.1 d.2.2.2.2.1 && helB d.2.1 d.2.2.2.1 d.2.2.2.2.2)))
set_option maxHeartbeats 4000000 in
set_option maxRecDepth 20000 in
theorem isdoc_ok (d : Dc) (hw : bn 1048576 TDc d) : FnC Tryz.prog 47 [aDc d] [aDc0] (.one (sB (docB d))) := by
  have hw0 := hw
  obtain ⟨⟨b1, _⟩, ⟨b2, _⟩, b3, _, b5, b6⟩ := hw
  have k1 := istext_ok d.1 (by omega)
  unfold docB
  cases h1 : tokM d.1 with
  | false =>
    rw [h1] at k1
    refine FnC_of (fn := Tryz.f47) Tryz.func47 rfl rfl rfl ?_
    have zD1 := fun (zh : True) => k1
    refine stp ?_ ?_ ?_ ?_ ?_ ?_ ?_ ?_ ?_ ?_ ?_ ?_ ?_ ?_ ?_ ?_ <;> (first | exact Mk.mk | exact trivial | (repeat intro hq))
  | true =>
    rw [h1] at k1
    have k2 := arecommits_ok d h1 hw0
    have k3 := isclock_ok d.2.2.2.1
    have k4 := aremembers_ok d.2.1 d.2.2.2.2.1 (by omega) b5
    have k5 := areheld_ok d.2.1 d.2.2.2.1 d.2.2.2.2.2 (by omega) (by have := b6.1; omega)
    refine FnC_of (fn := Tryz.f47) Tryz.func47 rfl rfl rfl ?_
    have zD1 := fun (zh : True) => k1
    have zD2 := fun (zh : True) => k2
    have zD3 := fun (zh : True) => k3
    have zD4 := fun (zh : True) => k4
    have zD5 := fun (zh : True) => k5
    refine stp ?_ ?_ ?_ ?_ ?_ ?_ ?_ ?_ ?_ ?_ ?_ ?_ ?_ ?_ ?_ ?_ <;> (first | exact Mk.mk | exact trivial | (repeat intro hq))
    all_goals (clear k1 k2 k3 k4 k5 b5 b6 b3 hw0)
    all_goals first
      | ((try simp only [cond_true] at *); simp only [Bool.and_true, Bool.true_and, Bool.and_false, Bool.false_and, *]; done)
      | ((try simp only [cond_true] at *); simp [*]; done)
end Go.LX
