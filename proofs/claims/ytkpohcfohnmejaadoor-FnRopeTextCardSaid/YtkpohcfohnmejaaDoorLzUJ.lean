/- A part of the proof of the statement in the row text. -/
import Derived.Test.YtkpohcfohnmejaaDoorLzUI
import Derived.Test.YtkpohcfohnmejaaDoorLxSb
import Derived.Test.YtkpohcfohnmejaaDoorLxFrz
set_option linter.unusedVariables false
set_option linter.unusedSimpArgs false
namespace Go.LX
open Go.Proofs
attribute [local irreducible] W WO OpW RW EndQ
set_option maxHeartbeats 4000000 in
set_option maxRecDepth 20000 in
theorem srunecount_ok (xs : List UInt8) (hl : xs.length ≤ 16777216) : FnC Tryd.prog 75 [aBy xs] [aX] (.one (sI (((cuL xs).length : Int) - 1))) := by
  have k1 := cuts_ok xs hl
  have k2 := cuL_len hl
  refine FnC_of (fn := Tryd.f75) Tryd.func75 rfl rfl rfl ?_
  have zD1 := fun (zh : True) => k1
  refine stp ?_ ?_ ?_ ?_ ?_ ?_ ?_ ?_ ?_ ?_ ?_ ?_ ?_ ?_ ?_ ?_ <;> (first | exact Mk.mk | exact trivial | (repeat intro hq))
theorem ct_step {xs : List UInt8} {i : Nat} (h : i < xs.length) : (xs.take (i + 1)).count 10 = (xs.take i).count 10 + if xs.getD i 0 = 10 then 1 else 0 := by
  rw [List.take_add_one, List.count_append, List.getElem?_eq_getElem h, List.getD_eq_getElem?_getD, List.getElem?_eq_getElem h]
  simp [List.count_cons]
theorem by10 {b : UInt8} (h : (b.toNat : Int) = ((10 : UInt8).toNat : Int)) : b = 10 := UInt8.toNat_inj.1 (by omega)
set_option maxHeartbeats 4000000 in
set_option maxRecDepth 20000 in
theorem smeasof_ok (xs : List UInt8) (hl : xs.length ≤ 16777216) : FnC Tryd.prog 30 [aBy xs] [aX] (.ag [sI (mB xs), sI (mR xs), sI (mL xs)]) := by
  have k1 := textok_ok xs hl
  unfold mB mR mL
  cases h : tokM xs with
  | false =>
    rw [h] at k1
    refine FnC_of (fn := Tryd.f30) Tryd.func30 rfl rfl rfl ?_
    have zD1 := fun (zh : True) => k1
    refine stp ?_ ?_ ?_ ?_ ?_ ?_ ?_ ?_ ?_ ?_ ?_ ?_ ?_ ?_ ?_ ?_ <;> (first | exact Mk.mk | exact trivial | (repeat intro hq))
  | true =>
    rw [h] at k1
    have k2 := srunecount_ok xs hl
    rw [show ((cuL xs).length : Int) - 1 = (rcM xs : Int) by rw [cuL_rc h]; omega] at k2
    have h4 := tokM_len h
    rw [if_pos rfl, if_pos rfl, if_pos rfl]
    refine FnC_of (fn := Tryd.f30) Tryd.func30 rfl rfl rfl ?_
    have zD1 := fun (zh : True) => k1
    have zD2 := fun (zh : True) => k2
    refine stp ?_ ?_ ?_ ?_ ?_ ?_ ?_ ?_ ?_ ?_ ?_ ?_ ?_ ?_ ?_ ?_ <;> (first | exact Mk.mk | exact trivial | (repeat intro hq))
    refine W_loopT (fun i : Nat => St.tmpl 30 [(0, .one (.d (.sl .u8) xs)), (2, .one (.rf 3000 (.pb 0))), (3, .one (.rf 4000 (.pb 0))), (4, .one (.d (.i .i64) (i : Int)))] [(3000, .cells [.d (.i .i64) 0, .d (.i .i64) 0, .d (.i .i64) 0]), (4000, .cells [.d (.i .i64) (xs.length : Nat), .d (.i .i64) (rcM xs : Nat), .d (.i .i64) ((xs.take i).count 10 : Nat)])]) (fun i => i ≤ xs.length) (fun i => xs.length - i) 0 (Nat.zero_le _) ?_ ?_
    · exact Wk_tmpl [] ⟨rfl, rfl, rfl, rfl, trivial⟩ ⟨rfl, rfl, trivial⟩ rfl rfl
    · intro i hi
      have hs := fun h : i < xs.length => ct_step h
      have hc := List.count_le_length (a := (10 : UInt8)) (l := xs.take i)
      have ht : (xs.take i).length ≤ 400 := by rw [List.length_take]; omega
      refine stp ?_ ?_ ?_ ?_ ?_ ?_ ?_ ?_ ?_ ?_ ?_ ?_ ?_ ?_ ?_ ?_ <;> (first | exact Mk.mk | exact trivial | (repeat intro hq))
      · rename_i q1
        have hlt : i < xs.length := by have := of_decide_eq_true q1; omega
        have h10 : xs.getD i 0 = 10 := by10 (of_decide_eq_true hq)
        have h5 := hs hlt
        rw [if_pos h10] at h5
        refine ⟨i + 1, by omega, by omega, Wk_tmpl [] ⟨rfl, rfl, rfl, rfl, trivial⟩ ⟨rfl, congrArg (fun z : Int => some (Ob.cells [C.d (Ty.i IntKind.i64) (xs.length : Nat), C.d (Ty.i IntKind.i64) (rcM xs : Nat), C.d (Ty.i IntKind.i64) z])) ?_, trivial⟩ rfl rfl⟩
        show (((xs.take i).count 10 : Nat) : Int) + 1 = (((xs.take (i + 1)).count 10 : Nat) : Int)
        omega
      · rename_i q1
        have hlt : i < xs.length := by have := of_decide_eq_true q1; omega
        have h10 : ¬ xs.getD i 0 = 10 := fun h => of_decide_eq_false hq (congrArg (fun b : UInt8 => (b.toNat : Int)) h)
        have h5 := hs hlt
        rw [if_neg h10] at h5
        refine ⟨i + 1, by omega, by omega, Wk_tmpl [] ⟨rfl, rfl, rfl, rfl, trivial⟩ ⟨rfl, congrArg (fun z : Int => some (Ob.cells [C.d (Ty.i IntKind.i64) (xs.length : Nat), C.d (Ty.i IntKind.i64) (rcM xs : Nat), C.d (Ty.i IntKind.i64) z])) ?_, trivial⟩ rfl rfl⟩
        show (((xs.take i).count 10 : Nat) : Int) = (((xs.take (i + 1)).count 10 : Nat) : Int)
        omega
      · have : ¬ (i : Int) < (xs.length : Int) := of_decide_eq_false hq
        rw [List.take_of_length_le (by omega)]
set_option maxHeartbeats 4000000 in
set_option maxRecDepth 20000 in
theorem samechunks_ok (xs : List (List UInt8)) (hl : xs.length ≤ 1048576) : FnC Tryd.prog 28 [aChs xs, aChs xs] [aX, aX] (.one (sB true)) := by
  refine FnC_of (fn := Tryd.f28) Tryd.func28 rfl rfl rfl ?_
  refine stp ?_ ?_ ?_ ?_ ?_ ?_ ?_ ?_ ?_ ?_ ?_ ?_ ?_ ?_ ?_ ?_ <;> (first | exact Mk.mk | exact trivial | (repeat intro hq))
  refine W_loopT (fun i : Nat => St.tmpl 30 [(0, .one (.d (.sl TCh) xs)), (1, .one (.d (.sl TCh) xs)), (5, .one (.d (.i .i64) (i : Int)))] []) (fun i => i ≤ xs.length) (fun i => xs.length - i) 0 (Nat.zero_le _) ?_ ?_
  · exact Wk_tmpl [] ⟨rfl, rfl, rfl, trivial⟩ trivial rfl rfl
  · intro i hi
    refine stp ?_ ?_ ?_ ?_ ?_ ?_ ?_ ?_ ?_ ?_ ?_ ?_ ?_ ?_ ?_ ?_ <;> (first | exact Mk.mk | exact trivial | (repeat intro hq))
    all_goals
      have hlt : i < xs.length := by simp_all
      exact ⟨i + 1, by omega, by omega, Wk_tmpl [] ⟨rfl, rfl, rfl, trivial⟩ trivial rfl rfl⟩
set_option maxHeartbeats 4000000 in
set_option maxRecDepth 20000 in
theorem lawRT_big (code : List UInt8) (hl : 1048576 < code.length) : FnC Tryd.prog 6 [aBy code] [aX] (.one (sB true)) := by
  refine FnC_of (fn := Tryd.f6) Tryd.func6 rfl rfl rfl ?_
  have zD1 := fun {z0} (zh : True) => big_ok z0
  refine stp ?_ ?_ ?_ ?_ ?_ ?_ ?_ ?_ ?_ ?_ ?_ ?_ ?_ ?_ ?_ ?_ <;> (first | exact Mk.mk | exact trivial | (repeat intro hq))
set_option maxHeartbeats 4000000 in
set_option maxRecDepth 20000 in
theorem lawRT_sm (code : List UInt8) (hl : code.length ≤ 1048576) : FnC Tryd.prog 6 [aBy code] [aX] (.one (sB true)) := by
  have hD := drawre_r code (Nat.le_trans hl (by decide))
  refine FnC_of (fn := Tryd.f6) Tryd.func6 rfl rfl rfl ?_
  have zD1 := fun {z0} (zh : True) => big_ok z0
  have zR1 := fun (zh : True) => hD
  refine stpD ?_ ?_ ?_ ?_ ?_ ?_ ?_ ?_ ?_ ?_ ?_ ?_ ?_ ?_ ?_ ?_ <;> (first | exact Mk.mk | exact trivial | (intros))
  rename_i r hr hq
  obtain ⟨⟨⟨hn, hw⟩, hp⟩, hF⟩ := hr
  obtain ⟨cs, a, c, put⟩ := r
  simp only at hn hw hp hF ⊢
  have hn' : cs.length ≤ 16777216 := by omega
  have hw' : ∀ d ∈ cs, d.length ≤ 16777216 := fun d hd => Nat.le_trans (hw d hd) (by decide)
  have k1 := sropeedit_ok cs a c put hn' hw' (by omega)
  have k2 := iropeedit_ok cs a c put hn' hw' (by omega)
  have zD1 := fun (zh : True) => k1
  have zR1 := fun (zh : True) => hD
  refine stpD ?_ ?_ ?_ ?_ ?_ ?_ ?_ ?_ ?_ ?_ ?_ ?_ ?_ ?_ ?_ ?_ <;> (first | exact Mk.mk | exact trivial | (intros))
  rename_i r' hr'
  obtain ⟨_, hF'⟩ := hr'
  rw [← hF] at hF'
  subst hF'
  simp only
  cases hok : rokM cs a c put with
  | false =>
    rw [hok] at k1 k2
    have zD1 := fun (zh : True) => k2
    refine stp ?_ ?_ ?_ ?_ ?_ ?_ ?_ ?_ ?_ ?_ ?_ ?_ ?_ ?_ ?_ ?_ <;> (first | exact Mk.mk | exact trivial | (repeat intro hq))
  | true =>
    rw [hok] at k1 k2
    obtain ⟨hR, ⟨ha, hc⟩, hE⟩ := rope_edit hok
    have hk := hok
    simp only [rokM, Bool.and_eq_true] at hk
    rw [hR.text] at hk
    have hpl := tokM_len (eok_parts hk.2).2.2.2.2.1
    obtain ⟨m, rfl⟩ : ∃ m : Nat, a = m := ⟨a.toNat, by omega⟩
    obtain ⟨n, rfl⟩ : ∃ n : Nat, c = n := ⟨c.toNat, by omega⟩
    rw [ropeR, if_pos hok] at k1 k2
    rw [ropeR, if_pos hok]
    rw [show ((m : Int)).toNat = m by omega, show ((m : Int) + (n : Int)).toNat = m + n by omega] at hE k1 k2
    rw [show ((m : Int)).toNat = m by omega, show ((m : Int) + (n : Int)).toNat = m + n by omega]
    have hab := hE.bl
    have RP := hE.rp
    have htx := hE.txt
    have tk := RP.tok
    generalize ropeE cs m (m + n) put = S at *
    have k3 := ropetext_ok cs hn' hw'
    rw [hR.text] at k3
    have hn2 : S.length ≤ 16777216 := Nat.le_trans RP.len (by decide)
    have hw2 : ∀ d ∈ S, d.length ≤ 16777216 := fun d hd => Nat.le_trans (RP.s d hd) (by decide)
    have k4 := iropetext_ok S hn2 hw2
    have k5 := samechunks_ok S (Nat.le_trans RP.len (by decide))
    have k6 := ropeok_ok S hn2 hw2
    rw [rp_iff.2 RP] at k6
    have k7 := iropemeas_ok S hn2 hw2
    have hSl := RP.l
    rw [RP.text] at k4 k7
    have hRl := hR.l
    have e1 : List.take (cutH (some (m : Int)) cs.flatten.length - cutL none) (List.drop (cutL none) cs.flatten) = cs.flatten.take m := by simp [cutH, cutL]
    have e2 : List.take (cutH none cs.flatten.length - cutL (some ((m : Int) + (n : Int)))) (List.drop (cutL (some ((m : Int) + (n : Int)))) cs.flatten) = cs.flatten.drop (m + n) := by
      simp only [cutH, cutL]
      rw [show ((m : Int) + (n : Int)).toNat = m + n by omega, List.take_of_length_le (by rw [List.length_drop]; omega)]
    have eE : (List.take (cutH (some (m : Int)) cs.flatten.length - cutL none) (List.drop (cutL none) cs.flatten) ++ put) ++ List.take (cutH none cs.flatten.length - cutL (some ((m : Int) + (n : Int)))) (List.drop (cutL (some ((m : Int) + (n : Int)))) cs.flatten) = S.flatten := by rw [e1, e2, htx]
    have k8 := smeasof_ok ((List.take (cutH (some (m : Int)) cs.flatten.length - cutL none) (List.drop (cutL none) cs.flatten) ++ put) ++ List.take (cutH none cs.flatten.length - cutL (some ((m : Int) + (n : Int)))) (List.drop (cutL (some ((m : Int) + (n : Int)))) cs.flatten)) (by rw [eE]; omega)
    have eEl := congrArg List.length eE
    rw [show mB ((List.take (cutH (some (m : Int)) cs.flatten.length - cutL none) (List.drop (cutL none) cs.flatten) ++ put) ++ List.take (cutH none cs.flatten.length - cutL (some ((m : Int) + (n : Int)))) (List.drop (cutL (some ((m : Int) + (n : Int)))) cs.flatten)) = mB S.flatten by rw [eE], show mR ((List.take (cutH (some (m : Int)) cs.flatten.length - cutL none) (List.drop (cutL none) cs.flatten) ++ put) ++ List.take (cutH none cs.flatten.length - cutL (some ((m : Int) + (n : Int)))) (List.drop (cutL (some ((m : Int) + (n : Int)))) cs.flatten)) = mR S.flatten by rw [eE], show mL ((List.take (cutH (some (m : Int)) cs.flatten.length - cutL none) (List.drop (cutL none) cs.flatten) ++ put) ++ List.take (cutH none cs.flatten.length - cutL (some ((m : Int) + (n : Int)))) (List.drop (cutL (some ((m : Int) + (n : Int)))) cs.flatten)) = mL S.flatten by rw [eE]] at k8
    generalize mB S.flatten = b1 at *
    generalize mR S.flatten = b2 at *
    generalize mL S.flatten = b3 at *
    generalize cs.flatten = T at *
    generalize S.flatten = U at *
    have zD1 := fun (zh : True) => k2
    have zD2 := fun (zh : True) => k3
    have zE1 := fun (zh : True) => k4
    have zE2 := fun (zh : True) => k5
    have zE3 := fun (zh : True) => k6
    have zE4 := fun (zh : True) => k7
    have zE5 := fun (zh : True) => k8
    refine stp ?_ ?_ ?_ ?_ ?_ ?_ ?_ ?_ ?_ ?_ ?_ ?_ ?_ ?_ ?_ ?_ <;> (first | exact Mk.mk | exact trivial | (repeat intro hq))
    · refine op_sb rfl rfl rfl rfl rfl rfl rfl ?_ ?_
      · show (_ : Nat) ≤ maxLen
        unfold maxLen; omega
      have zD1 := fun (zh : True) => k8
      refine stp ?_ ?_ ?_ ?_ ?_ ?_ ?_ ?_ ?_ ?_ ?_ ?_ ?_ ?_ ?_ ?_ <;> (first | exact Mk.mk | exact trivial | (repeat intro hq))
      simp
theorem lawRT_ok (code : List UInt8) (hw : WfT (.sl .u8) code) : FnC Tryd.prog 6 [aBy code] [aX] (.one (sB true)) := by
  by_cases hl : code.length ≤ 1048576
  · exact lawRT_sm code hl
  · exact lawRT_big code (by omega)
end Go.LX
