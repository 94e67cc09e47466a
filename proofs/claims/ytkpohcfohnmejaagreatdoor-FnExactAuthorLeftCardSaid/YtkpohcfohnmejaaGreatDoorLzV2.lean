/- A part of the proof of the statement in the row text. -/
import Derived.Test.YtkpohcfohnmejaaGreatDoorLzV1
import Derived.Test.YtkpohcfohnmejaaGreatDoorLxLd
import Derived.Test.YtkpohcfohnmejaaGreatDoorLxStpL
set_option linter.unusedVariables false
set_option linter.unusedSimpArgs false
namespace Go.LX
open Go.Proofs
attribute [local irreducible] W WO OpW RW EndQ
theorem asc_1 {ys : List UInt8} (h0 : ys.length ≠ 0) (hb : (ys.getD 0 0).toNat < 128) : vld (cut (some 1) none ys) = vld ys := (vld_asc 1 ys (by omega) fun i hi => by rw [show i = 0 by omega]; exact hb).symm
theorem asc_8 {ys : List UInt8} (h : decide (8 < (ys.length : Int)) = true) (hb : decide (iAnd .u64 (wdN ys : Int) 9259542123273814144 = 0) = true) : vld (cut (some 8) none ys) = vld ys := by
  have h := of_decide_eq_true h
  exact (vld_asc 8 ys (by omega) (wd_hi (of_decide_eq_true hb))).symm
theorem or_bits {a b : Nat} (ha : a < 18446744073709551616) (hb : b < 18446744073709551616) : iOr .u64 (a : Int) (b : Int) = ((a ||| b : Nat) : Int) ∧ a ||| b < 18446744073709551616 := iOr64 ha hb
theorem and0 {v : Nat} (hv : v < 18446744073709551616) (h : iAnd .u64 (v : Int) 9259542123273814144 = 0) : v &&& 9259542123273814144 = 0 := by
  have h' := iAnd64 hv (b := 9259542123273814144) (by decide)
  rw [show ((9259542123273814144 : Nat) : Int) = 9259542123273814144 from rfl, h] at h'
  omega
theorem or_l {a b k : Nat} (h : (a ||| b).testBit k = false) : a.testBit k = false ∧ b.testBit k = false := by
  rw [Nat.testBit_or, Bool.or_eq_false_iff] at h; exact h
theorem asc_16 {ys : List UInt8} (h : decide (16 < (ys.length : Int)) = true) (hb : decide (iAnd .u64 (iOr .u64 (wdN ys : Int) (wdN (cut (some 8) none ys) : Int)) 9259542123273814144 = 0) = true) : vld (cut (some 16) none ys) = vld ys := by
  have h := of_decide_eq_true h
  obtain ⟨o1, o2⟩ := or_bits (wdN_lt ys) (wdN_lt (cut (some 8) none ys))
  have hb := of_decide_eq_true hb
  rw [o1] at hb
  have hz := and0 o2 hb
  have hk := fun k (q : (9259542123273814144 : Nat).testBit k = true) => or_l (hi_bit hz q)
  have e1 := vld_asc 8 ys (by omega) (wd_asc fun k q => (hk k q).1)
  have e2 := vld_asc 8 (ys.drop 8) (by rw [List.length_drop]; omega) (wd_asc fun k q => (hk k q).2)
  rw [List.drop_drop] at e2
  exact (e1.trans e2).symm
theorem asc_32 {ys : List UInt8} (h : decide (32 < (ys.length : Int)) = true) (hb : decide (iAnd .u64 (iOr .u64 (iOr .u64 (wdN ys : Int) (wdN (cut (some 8) none ys) : Int)) (iOr .u64 (wdN (cut (some 16) none ys) : Int) (wdN (cut (some 24) none ys) : Int))) 9259542123273814144 = 0) = true) : vld (cut (some 32) none ys) = vld ys := by
  have h := of_decide_eq_true h
  obtain ⟨o1, o2⟩ := or_bits (wdN_lt ys) (wdN_lt (cut (some 8) none ys))
  obtain ⟨o3, o4⟩ := or_bits (wdN_lt (cut (some 16) none ys)) (wdN_lt (cut (some 24) none ys))
  obtain ⟨o5, o6⟩ := or_bits o2 o4
  have hb := of_decide_eq_true hb
  rw [o1, o3, o5] at hb
  have hz := and0 o6 hb
  have hk := fun k (q : (9259542123273814144 : Nat).testBit k = true) => or_l (hi_bit hz q)
  have e1 := vld_asc 8 ys (by omega) (wd_asc fun k q => (or_l (hk k q).1).1)
  have e2 := vld_asc 8 (ys.drop 8) (by rw [List.length_drop]; omega) (wd_asc fun k q => (or_l (hk k q).1).2)
  have e3 := vld_asc 8 (ys.drop 16) (by rw [List.length_drop]; omega) (wd_asc fun k q => (or_l (hk k q).2).1)
  have e4 := vld_asc 8 (ys.drop 24) (by rw [List.length_drop]; omega) (wd_asc fun k q => (or_l (hk k q).2).2)
  rw [List.drop_drop] at e2 e3 e4
  exact (e1.trans (e2.trans (e3.trans e4))).symm
theorem cutD_len {ys : List UInt8} {k : Int} (hk : 0 ≤ k) : ((cut (some k) none ys).length : Int) = ys.length - min k ys.length := by
  simp only [cut, List.length_drop]; omega
/-- What the words of a text tell. -/
structure WdOK (W : List UInt8 → Int) : Prop where
  f : ∀ zs : List UInt8, 8 ≤ zs.length → zs.length ≤ 16777216 → FnC Tryz.prog 159 [aBy zs] [aX] (.one (.d (.i .u64) (W zs)))
  a8 : ∀ ys : List UInt8, decide (8 < (ys.length : Int)) = true → decide (iAnd .u64 (W ys) 9259542123273814144 = 0) = true → vld (cut (some 8) none ys) = vld ys
  a16 : ∀ ys : List UInt8, decide (16 < (ys.length : Int)) = true → decide (iAnd .u64 (iOr .u64 (W ys) (W (cut (some 8) none ys))) 9259542123273814144 = 0) = true → vld (cut (some 16) none ys) = vld ys
  a32 : ∀ ys : List UInt8, decide (32 < (ys.length : Int)) = true → decide (iAnd .u64 (iOr .u64 (iOr .u64 (W ys) (W (cut (some 8) none ys))) (iOr .u64 (W (cut (some 16) none ys)) (W (cut (some 24) none ys)))) 9259542123273814144 = 0) = true → vld (cut (some 32) none ys) = vld ys
theorem wdOK : WdOK fun xs => (wdN xs : Int) := ⟨fun zs h1 h2 => word_ok zs h1 h2, fun _ => asc_8, fun _ => asc_16, fun _ => asc_32⟩
set_option maxHeartbeats 4000000 in
set_option maxRecDepth 20000 in
theorem valid_gen (W : List UInt8 → Int) (hW : WdOK W) (xs : List UInt8) (hl : xs.length ≤ 16777216) : FnC Tryz.prog 136 [aBy xs] [aX] (.one (sB (vld xs))) := by
  obtain ⟨R, hR⟩ : ∃ R, vld xs = R := ⟨_, rfl⟩
  rw [hR]
  refine FnC_of (fn := Tryz.f136) Tryz.func136 rfl rfl rfl ?_
  refine stpT ?_ ?_ ?_ ?_ ?_ ?_ ?_ ?_ ?_ ?_ ?_ ?_ ?_ ?_ ?_ ?_ <;> (first | exact Mk.mk | exact trivial | (repeat intro hq))
  refine W_loopT (fun ys : List UInt8 => St.tmpl 188 [(0, .one (.d (.sl .u8) ys))] []) (fun ys => ys.length ≤ 16777216 ∧ vld ys = R) (fun ys => ys.length) xs ⟨hl, hR⟩ ?_ ?_
  · exact Wk_tmpl [] ⟨rfl, trivial⟩ trivial rfl rfl
  · rintro ys ⟨hy, hv⟩
    by_cases h0 : ys.length = 0
    · have e : R = true := by rw [← hv, List.eq_nil_of_length_eq_zero h0]; rfl
      rw [e]
      clear hv hR e
      refine stp ?_ ?_ ?_ ?_ ?_ ?_ ?_ ?_ ?_ ?_ ?_ ?_ ?_ ?_ ?_ ?_ <;> (first | exact Mk.mk | exact trivial | (repeat intro hq))
    · by_cases hb : (ys.getD 0 0).toNat < 128
      · have hb' : ((ys.getD (Int.toNat 0) (dflt Ty.u8)).toNat : Int) < 128 := by show ((ys.getD 0 0).toNat : Int) < 128; omega
        have v1 := asc_1 h0 hb
        have l1 := cutD_len (ys := ys) (k := 1) (by decide)
        obtain ⟨zs, hzs⟩ : ∃ zs, cut (some 1) none ys = zs := ⟨_, rfl⟩
        rw [hzs] at v1 l1
        have l2 := cutD_len (ys := zs) (k := 8) (by decide)
        have l3 := cutD_len (ys := cut (some 8) none zs) (k := 8) (by decide)
        have l4 := cutD_len (ys := cut (some 8) none zs) (k := 16) (by decide)
        have lz : zs.length < ys.length := by omega
        refine stp ?_ ?_ ?_ ?_ ?_ ?_ ?_ ?_ ?_ ?_ ?_ ?_ ?_ ?_ ?_ ?_ <;> (first | exact Mk.mk | exact trivial | (repeat intro hq))
        rw [hzs]
        have zD1 := fun {z0} (zh : _ ∧ _) => hW.f z0 zh.1 zh.2
        refine stp ?_ ?_ ?_ ?_ ?_ ?_ ?_ ?_ ?_ ?_ ?_ ?_ ?_ ?_ ?_ ?_ <;> (first | exact Mk.mk | exact trivial | (repeat intro hq))
        · rw [hzs] at hq
          have := of_decide_eq_true hq
          omega
        · rename_i z1
          rw [hzs] at z1
          have := of_decide_eq_true z1
          omega
        · rename_i y1 y2 z1 z2 z3
          rw [hzs] at z1
          have v2 := hW.a8 _ z1 z2
          have v3 := hW.a16 _ z3 hq
          refine W_loopT (fun us : List UInt8 => St.tmpl 188 [(0, .one (.d (.sl .u8) us))] []) (fun us => us.length < ys.length ∧ vld us = R) (fun us => us.length) (cut (some 16) none (cut (some 8) none zs)) ⟨by omega, by rw [v3, v2, v1]; exact hv⟩ ?_ ?_
          · exact Wk_tmpl [] ⟨rfl, trivial⟩ trivial rfl rfl
          · rintro us ⟨hu, hu2⟩
            have m1 := cutD_len (ys := us) (k := 8) (by decide)
            have m2 := cutD_len (ys := us) (k := 16) (by decide)
            have m3 := cutD_len (ys := us) (k := 24) (by decide)
            have m4 := cutD_len (ys := us) (k := 32) (by decide)
            clear z1 z2 z3 y1 y2 v2 v3 hq v1 l1 l2 l3 l4
            have zD1 := fun {z0} (zh : _ ∧ _) => hW.f z0 zh.1 zh.2
            refine stp ?_ ?_ ?_ ?_ ?_ ?_ ?_ ?_ ?_ ?_ ?_ ?_ ?_ ?_ ?_ ?_ <;> (first | exact Mk.mk | exact trivial | (repeat intro hq))
            · rename_i z9
              have v4 := hW.a32 _ z9 hq
              have z9 := of_decide_eq_true z9
              exact ⟨cut (some 32) none us, by omega, ⟨by omega, by rw [v4]; exact hu2⟩, Wk_tmpl [] ⟨rfl, trivial⟩ trivial rfl rfl⟩
            · exact ⟨us, hu, ⟨by omega, hu2⟩, Wk_tmpl [] ⟨rfl, trivial⟩ trivial rfl rfl⟩
            · exact ⟨us, hu, ⟨by omega, hu2⟩, Wk_tmpl [] ⟨rfl, trivial⟩ trivial rfl rfl⟩
        · rename_i y1 y2 z1 z2 z3
          rw [hzs] at z1
          have v2 := hW.a8 _ z1 z2
          exact ⟨cut (some 8) none zs, by omega, ⟨by omega, by rw [v2, v1]; exact hv⟩, Wk_tmpl [] ⟨rfl, trivial⟩ trivial rfl rfl⟩
        · rename_i y1 y2 z1 z2
          rw [hzs] at z1
          have v2 := hW.a8 _ z1 z2
          exact ⟨cut (some 8) none zs, by omega, ⟨by omega, by rw [v2, v1]; exact hv⟩, Wk_tmpl [] ⟨rfl, trivial⟩ trivial rfl rfl⟩
        · exact ⟨zs, lz, ⟨by omega, by rw [v1]; exact hv⟩, Wk_tmpl [] ⟨rfl, trivial⟩ trivial rfl rfl⟩
        · rw [hzs]
          exact ⟨zs, lz, ⟨by omega, by rw [v1]; exact hv⟩, Wk_tmpl [] ⟨rfl, trivial⟩ trivial rfl rfl⟩
      · have hb' : ¬ ((ys.getD (Int.toNat 0) (dflt Ty.u8)).toNat : Int) < 128 := by show ¬ ((ys.getD 0 0).toNat : Int) < 128; omega
        have Ld := ldC (ys.getD (Int.toNat 0) (dflt Ty.u8)) (by omega)
        have Li := ldI (ys.getD (Int.toNat 0) (dflt Ty.u8))
        have hR0 : stU ys = 0 → false = R := fun h => by rw [← hv, vld_step h0, h]; rfl
        have hRn : ∀ n : Nat, stU ys = n + 1 → vld (cut (some ((n + 1 : Nat) : Int)) none ys) = R := fun n h => by
          rw [← hv, vld_step h0, h]
          simp [cut]
        have e0 : ((ys.getD (Int.toNat 0) (dflt Ty.u8)).toNat : Int) = ((ys.getD 0 0).toNat : Int) := rfl
        have e1 : ((ys.getD (Int.toNat 1) (dflt Ty.u8)).toNat : Int) = ((ys.getD 1 0).toNat : Int) := rfl
        have e2 : ((ys.getD (Int.toNat 2) (dflt Ty.u8)).toNat : Int) = ((ys.getD 2 0).toNat : Int) := rfl
        have e3 : ((ys.getD (Int.toNat 3) (dflt Ty.u8)).toNat : Int) = ((ys.getD 3 0).toNat : Int) := rfl
        have k1 : ((UInt8.ofNat (Int.toNat 128)).toNat : Int) = 128 := rfl
        have k2 : ((UInt8.ofNat (Int.toNat 191)).toNat : Int) = 191 := rfl
        have c2 := cutD_len (ys := ys) (k := 2) (by decide)
        have c3 := cutD_len (ys := ys) (k := 3) (by decide)
        have c4 := cutD_len (ys := ys) (k := 4) (by decide)
        clear hv hR
        refine stpM ?_ ?_ ?_ ?_ ?_ ?_ ?_ ?_ ?_ ?_ ?_ ?_ ?_ ?_ ?_ ?_ ?_ ?_ ?_ ?_ ?_ ?_ ?_ ?_ ?_ ?_ ?_ ?_ <;> (first | exact Mk.mk | exact trivial | (repeat intro hq))
        · rw [firstL_len]
          have := (ys.getD (Int.toNat 0) (dflt Ty.u8)).toNat_lt
          omega
        · rw [accL_len]
          exact Li
        all_goals simp only [cond_false, decide_eq_true_eq, decide_eq_false_iff_not, LdS, LdLO, LdHI] at *
        all_goals first
          | (exact hR0 (by unfold stU; simp only; (repeat' split) <;> omega))
          | skip
        · have hs : stU ys = 2 := by unfold stU; simp only; (repeat' split) <;> omega
          exact ⟨cut (some 2) none ys, by omega, ⟨by omega, hRn 1 hs⟩, Wk_tmpl [] ⟨rfl, trivial⟩ trivial rfl rfl⟩
        · have hs : stU ys = 3 := by unfold stU; simp only; (repeat' split) <;> omega
          exact ⟨cut (some 3) none ys, by omega, ⟨by omega, hRn 2 hs⟩, Wk_tmpl [] ⟨rfl, trivial⟩ trivial rfl rfl⟩
        · have hs : stU ys = 4 := by unfold stU; simp only; (repeat' split) <;> omega
          exact ⟨cut (some 4) none ys, by omega, ⟨by omega, hRn 3 hs⟩, Wk_tmpl [] ⟨rfl, trivial⟩ trivial rfl rfl⟩
theorem valid_ok (xs : List UInt8) (hl : xs.length ≤ 16777216) : FnC Tryz.prog 136 [aBy xs] [aX] (.one (sB (vld xs))) := valid_gen _ wdOK xs hl
end Go.LX
