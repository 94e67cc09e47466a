/- A part of the proof of the statement in the row text. -/
import Derived.Test.YtkpohcfohnmejaaGreatDoorLzA3
import Derived.Test.YtkpohcfohnmejaaGreatDoorLzR3
import Derived.Test.YtkpohcfohnmejaaGreatDoorLxStpL
set_option linter.unusedVariables false
set_option linter.unusedSimpArgs false
namespace Go.LX
open Go.Proofs
attribute [local irreducible] W WO OpW RW EndQ
abbrev Cm : Type := Int × Ed
abbrev TCm : Ty := .pr (.i .i64) TEd
abbrev aCm (x : Cm) : SA := .ag [sI x.1, sI x.2.1, sI x.2.2.1, sBy x.2.2.2]
abbrev aCm0 : SA := .ag [.any, .any, .any, .any]
abbrev aCms (xs : List Cm) : SA := .c (.d (.sl TCm) xs)
abbrev Sk : Type := List Ed × List Ed
abbrev TSk : Ty := .pr (.sl TEd) (.sl TEd)
abbrev Se : Type := Int × Int
abbrev TSe : Ty := .pr (.i .i64) (.i .i64)
abbrev Mb : Type := Int × Se × Sk
abbrev TMb : Ty := .pr (.i .i64) (.pr TSe TSk)
abbrev aMb (x : Mb) : SA := .ag [sI x.1, sI x.2.1.1, sI x.2.1.2, .d (.sl TEd) x.2.2.1, .d (.sl TEd) x.2.2.2]
abbrev aMb0 : SA := .ag [.any, .any, .any, .any, .any]
abbrev aMbs (xs : List Mb) : SA := .c (.d (.sl TMb) xs)
abbrev Dc : Type := List UInt8 × List UInt8 × List Cm × Int × List Mb × List Le
abbrev TDc : Ty := .pr (.sl .u8) (.pr (.sl .u8) (.pr (.sl TCm) (.pr (.i .i64) (.pr (.sl TMb) (.sl TLe)))))
abbrev aDc (x : Dc) : SA := .ag [sBy x.1, sBy x.2.1, .d (.sl TCm) x.2.2.1, sI x.2.2.2.1, .d (.sl TMb) x.2.2.2.2.1, .d (.sl TLe) x.2.2.2.2.2]
abbrev aDc0 : SA := .ag [.any, .any, .any, .any, .any, .any]
/-- How long slices are. -/
def bn (n : Nat) : (t : Ty) → t.T → Prop
  | .sl e, xs => List.length (α := e.T) xs ≤ n ∧ ∀ x : e.T, x ∈ (xs : List e.T) → bn n e x
  | .pr a b, x => bn n a x.1 ∧ bn n b x.2
  | _, _ => True
theorem bn_at {n : Nat} {e : Ty} {xs : List e.T} {i : Nat} (h : bn n (.sl e) xs) (hi : i < xs.length) (d : e.T) : bn n e (xs.getD i d) := by
  rw [List.getD_eq_getElem?_getD, List.getElem?_eq_getElem hi]
  exact h.2 _ (List.getElem_mem hi)
theorem bn_dflt {n : Nat} : ∀ {t : Ty}, bn n t (dflt t)
  | .sl e => ⟨Nat.zero_le _, fun x hx => by cases hx⟩
  | .pr a b => ⟨bn_dflt, bn_dflt⟩
  | .i _ => trivial | .u8 => trivial | .bo => trivial | .st => trivial | .un => trivial
theorem bn_get {n : Nat} {e : Ty} {xs : List e.T} (h : bn n (.sl e) xs) (i : Nat) : bn n e (xs.getD i (dflt e)) := by
  rcases Nat.lt_or_ge i xs.length with hi | hi
  · exact bn_at h hi _
  · rw [List.getD_eq_getElem?_getD, List.getElem?_eq_none hi]
    exact bn_dflt
def logE (xs : List Cm) : List Ed := xs.map (·.2)
theorem logE_len {xs : List Cm} : (logE xs).length = xs.length := by simp [logE]
theorem logE_bn {xs : List Cm} (h : bn 1048576 (.sl TCm) xs) : ∀ e ∈ logE xs, e.2.2.length ≤ 16777216 := fun e he => by
  obtain ⟨c, hc, rfl⟩ := List.mem_map.1 he
  exact Nat.le_trans (h.2 c hc).2.2.2.1 (by decide)
set_option maxHeartbeats 4000000 in
set_option maxRecDepth 20000 in
theorem badcm_ok (c : Cm) : FnC Tryz.prog 138 ([aCm c] ++ capA []) [aCm0] (.one (sB (!ssB c.1))) := by
  refine FnC_of (fn := Tryz.f138) Tryz.func138 rfl rfl rfl ?_
  have zD1 := fun {z0} (zh : True) => issess_ok z0
  refine stp ?_ ?_ ?_ ?_ ?_ ?_ ?_ ?_ ?_ ?_ ?_ ?_ ?_ ?_ ?_ ?_ <;> (first | exact Mk.mk | exact trivial | (repeat intro hq))
set_option maxHeartbeats 4000000 in
set_option maxRecDepth 20000 in
theorem indexCm_ok (xs : List Cm) (hl : xs.length ≤ 16777216) : FnC Tryz.prog 160 [aCms xs, .sem (clS 138 [])] [aX, aX] (.one (sI (idxP (fun c => !ssB c.1) xs))) := by
  have hF : ∀ c : Cm, FnC Tryz.prog 138 ([aCm c] ++ capA []) [aCm0] (.one (sB (!ssB c.1))) := fun c => badcm_ok c
  refine FnC_of (fn := Tryz.f160) Tryz.func160 rfl rfl rfl ?_
  refine stp ?_ ?_ ?_ ?_ ?_ ?_ ?_ ?_ ?_ ?_ ?_ ?_ ?_ ?_ ?_ ?_ <;> (first | exact Mk.mk | exact trivial | (repeat intro hq))
  refine W_loopT (fun i : Nat => St.tmpl 19 [(0, .one (.d (.sl TCm) xs)), (1, .one (.sem (clS 138 []))), (7, .one (.d (.i .i64) (xs.length : Nat))), (8, .one (.d (.i .i64) (i : Int)))] []) (fun i => i ≤ xs.length ∧ (xs.take i).any (fun c => !ssB c.1) = false) (fun i => xs.length - i) 0 ⟨Nat.zero_le _, rfl⟩ ?_ ?_
  · exact Wk_tmpl [] ⟨rfl, rfl, rfl, rfl, trivial⟩ trivial rfl rfl
  · rintro i ⟨hi, ha⟩
    have zV1 := fun {z0} (zh : True) => hF z0
    refine stp ?_ ?_ ?_ ?_ ?_ ?_ ?_ ?_ ?_ ?_ ?_ ?_ ?_ ?_ ?_ ?_ <;> (first | exact Mk.mk | exact trivial | (repeat intro hq))
    · rename_i h1
      have hlt : i < xs.length := by have := of_decide_eq_true h1; omega
      exact (idxP_hit (p := fun c : Cm => !ssB c.1) hlt ha hq).symm
    · rename_i h1
      have hlt : i < xs.length := by have := of_decide_eq_true h1; omega
      refine ⟨i + 1, by omega, ⟨by omega, ?_⟩, Wk_tmpl [] ⟨rfl, rfl, rfl, rfl, trivial⟩ trivial rfl rfl⟩
      rw [take1 hlt (dflt TCm), List.any_append, ha]
      simpa using hq
    · have e : i = xs.length := by have : ¬ (i : Int) < (xs.length : Int) := of_decide_eq_false hq; omega
      rw [e, List.take_length] at ha
      exact (idxP_none ha).symm
set_option maxHeartbeats 4000000 in
set_option maxRecDepth 20000 in
theorem containsCm_ok (xs : List Cm) (hl : xs.length ≤ 16777216) : FnC Tryz.prog 137 [aCms xs, .sem (clS 138 [])] [aX, aX] (.one (sB (xs.any fun c => !ssB c.1))) := by
  have k1 := indexCm_ok xs hl
  rw [← idxP_any]
  refine FnC_of (fn := Tryz.f137) Tryz.func137 rfl rfl rfl ?_
  have zD1 := fun (zh : True) => k1
  refine stp ?_ ?_ ?_ ?_ ?_ ?_ ?_ ?_ ?_ ?_ ?_ ?_ ?_ ?_ ?_ ?_ <;> (first | exact Mk.mk | exact trivial | (repeat intro hq))
set_option maxHeartbeats 4000000 in
set_option maxRecDepth 20000 in
theorem editsof_ok (xs : List Cm) (hl : xs.length ≤ 1000) (hw : bn 1048576 (.sl TCm) xs) : FnC Tryz.prog 77 [aCms xs] [aX] (.one (oEs (logE xs))) := by
  refine FnC_of (fn := Tryz.f77) Tryz.func77 rfl rfl rfl ?_
  refine stp ?_ ?_ ?_ ?_ ?_ ?_ ?_ ?_ ?_ ?_ ?_ ?_ ?_ ?_ ?_ ?_ <;> (first | exact Mk.mk | exact trivial | (repeat intro hq))
  refine W.weak (Wk_deep (q := 7000) rfl (.inr rfl)) ?_
  refine W_loopT (fun i : Nat => St.tmpl 21 [(3, .one (.rf 7000 .ar)), (7, .one (.d (.sl TCm) xs)), (8, .one (.d (.i .i64) (xs.length : Int))), (9, .one (.d (.i .i64) (i : Int)))] [(7000, .rows 40 TEd true (logE (xs.take i)))]) (fun i => i ≤ xs.length) (fun i => xs.length - i) 0 (Nat.zero_le _) ?_ ?_
  · exact Wk_tmpl [] ⟨rfl, rfl, rfl, rfl, trivial⟩ ⟨rfl, trivial⟩ rfl rfl
  · intro i hi
    have hwi : (xs.getD (i : Int).toNat (dflt TCm)).2.2.2.length ≤ 16777216 := Nat.le_trans (bn_get hw i).2.2.2.1 (by decide)
    have hlen : (logE (xs.take i)).length = i := by rw [logE_len, List.length_take]; omega
    have k1 := ecopied_ok (xs.getD (i : Int).toNat (dflt TCm)).2 hwi
    have zD1 := fun (zh : True) => k1
    refine stp ?_ ?_ ?_ ?_ ?_ ?_ ?_ ?_ ?_ ?_ ?_ ?_ ?_ ?_ ?_ ?_ <;> (first | exact Mk.mk | exact trivial | (repeat intro hq))
    · show (logE (xs.take i)).length + 1 ≤ maxLen
      rw [hlen]; unfold maxLen; omega
    · have hlt : i < xs.length := by simpa using hq
      refine ⟨i + 1, by omega, by omega, Wk_tmpl [(7000, 19000)] ⟨rfl, rfl, rfl, rfl, trivial⟩ ⟨?_, trivial⟩ rfl rfl⟩
      refine congrArg (fun r => some (Ob.rows 40 TEd true r)) ?_
      unfold logE; rw [take1 hlt (dflt TCm), List.map_append]; rfl
    · have : i = xs.length := by simp at hq; omega
      rw [this, List.take_length]
set_option maxHeartbeats 4000000 in
set_option maxRecDepth 20000 in
theorem l10log_ok (d : Dc) (hl : d.2.2.1.length ≤ 1000) (hw : bn 1048576 (.sl TCm) d.2.2.1) : FnC Tryz.prog 70 [aDc d] [aDc0] (.one (.own 40 TEd false (logE d.2.2.1))) := by
  obtain ⟨s, t, xs, clk, ms, ls⟩ := d
  simp only at hl hw ⊢
  refine FnC_of (fn := Tryz.f70) Tryz.func70 rfl rfl rfl ?_
  refine stp ?_ ?_ ?_ ?_ ?_ ?_ ?_ ?_ ?_ ?_ ?_ ?_ ?_ ?_ ?_ ?_ <;> (first | exact Mk.mk | exact trivial | (repeat intro hq))
  refine W_loopT (fun i : Nat => St.tmpl 23 [(1, .one (.rf 2000 (.pb 0))), (3, .one (.rf 6000 .ar)), (4, .one (.d (.i .i64) (i : Int)))] [(2000, .cells [.d (.sl .u8) s, .d (.sl .u8) t, .d (.sl TCm) xs, .d (.i .i64) clk, .d (.sl TMb) ms, .d (.sl TLe) ls]), (6000, .rows 40 TEd false (logE (xs.take i)))]) (fun i => i ≤ xs.length) (fun i => xs.length - i) 0 (Nat.zero_le _) ?_ ?_
  · exact Wk_tmpl [] ⟨rfl, rfl, rfl, trivial⟩ ⟨rfl, rfl, trivial⟩ rfl rfl
  · intro i hi
    have hlen : (logE (xs.take i)).length = i := by rw [logE_len, List.length_take]; omega
    refine stpL ?_ ?_ ?_ ?_ ?_ ?_ ?_ ?_ ?_ ?_ ?_ ?_ ?_ ?_ ?_ ?_ <;> (first | exact Mk.mk | exact trivial | (repeat intro hq))
    · show (logE (xs.take i)).length + 1 ≤ maxLen
      rw [hlen]; unfold maxLen; omega
    · have hlt : i < xs.length := by simpa using hq
      refine ⟨i + 1, by omega, by omega, Wk_tmpl [(6000, 22000)] ⟨rfl, rfl, rfl, trivial⟩ ⟨rfl, ?_, trivial⟩ rfl rfl⟩
      refine congrArg (fun r => some (Ob.rows 40 TEd false r)) ?_
      unfold logE; rw [take1 hlt (dflt TCm), List.map_append]; rfl
    · have : i = xs.length := by simp at hq; omega
      rw [this, List.take_length]
end Go.LX

set_option linter.unusedVariables false
set_option linter.unusedSimpArgs false
namespace Go.LX
open Go.Proofs
attribute [local irreducible] W WO OpW RW EndQ
set_option maxHeartbeats 4000000 in
set_option maxRecDepth 20000 in
theorem beqA_ok (a b : List UInt8) : FnC Tryz.prog 48 [aBy a, aBy b] [aX, aX] (.one (sB (decide (a = b)))) := by
  refine FnC_of (fn := Tryz.f48) Tryz.func48 rfl rfl rfl ?_
  refine stp ?_ ?_ ?_ ?_ ?_ ?_ ?_ ?_ ?_ ?_ ?_ ?_ ?_ ?_ ?_ ?_ <;> (first | exact Mk.mk | exact trivial | (repeat intro hq))
noncomputable def cmsB (d : Dc) : Bool := decide ((d.2.2.1.length : Int) ≤ 60) && (d.2.2.1.all (fun c => ssB c.1) && (decide ((dos d.1 (logE d.2.2.1)).2 = d.2.2.1.length) && decide ((dos d.1 (logE d.2.2.1)).1 = d.2.1)))
theorem nat_dec {a b : Nat} : decide ((a : Int) = (b : Int)) = decide (a = b) := decide_eq_decide.2 (by omega)
set_option maxHeartbeats 4000000 in
set_option maxRecDepth 20000 in
theorem arecommits_ok (d : Dc) (h : tokM d.1 = true) (hw : bn 1048576 TDc d) : FnC Tryz.prog 95 [aDc d] [aDc0] (.one (sB (cmsB d))) := by
  obtain ⟨b1, b2, b3, _, b5, b6⟩ := hw
  have l1 := tokM_len h
  have l3 := b3.1
  unfold cmsB
  have k1 := containsCm_ok d.2.2.1 (by omega)
  rw [← any_not]
  cases h1 : decide ((d.2.2.1.length : Int) ≤ 60) with
  | false =>
    simp only [decide_eq_false_iff_not] at h1
    refine FnC_of (fn := Tryz.f95) Tryz.func95 rfl rfl rfl ?_
    refine stp ?_ ?_ ?_ ?_ ?_ ?_ ?_ ?_ ?_ ?_ ?_ ?_ ?_ ?_ ?_ ?_ <;> (first | exact Mk.mk | exact trivial | (repeat intro hq))
  | true =>
    simp only [decide_eq_true_eq] at h1
    cases h2 : d.2.2.1.any (fun c => !ssB c.1) with
    | true =>
      rw [h2] at k1
      refine FnC_of (fn := Tryz.f95) Tryz.func95 rfl rfl rfl ?_
      have zD1 := fun (zh : True) => k1
      refine stp ?_ ?_ ?_ ?_ ?_ ?_ ?_ ?_ ?_ ?_ ?_ ?_ ?_ ?_ ?_ ?_ <;> (first | exact Mk.mk | exact trivial | (repeat intro hq))
    | false =>
      rw [h2] at k1
      have k2 := editsof_ok d.2.2.1 (by omega) b3
      have k3 := ieditsdo_ok d.1 (logE d.2.2.1) (by omega) (by rw [logE_len]; omega) (logE_bn b3) h
      have k4 := beqA_ok (dos d.1 (logE d.2.2.1)).1 d.2.1
      have l4 := dos_n (es := logE d.2.2.1) (t := d.1)
      rw [← nat_dec]
      refine FnC_of (fn := Tryz.f95) Tryz.func95 rfl rfl rfl ?_
      have zD1 := fun (zh : True) => k1
      have zD2 := fun (zh : True) => k2
      have zE1 := fun (zh : True) => k3
      have zE2 := fun (zh : True) => k4
      refine stp ?_ ?_ ?_ ?_ ?_ ?_ ?_ ?_ ?_ ?_ ?_ ?_ ?_ ?_ ?_ ?_ <;> (first | exact Mk.mk | exact trivial | (repeat intro hq))
      all_goals (rw [hq]; rfl)
set_option maxHeartbeats 4000000 in
set_option maxRecDepth 20000 in
theorem growE_ok (n : Int) (h : 0 ≤ n ∧ n ≤ 1000000000) : FnC Tryz.prog 162 [.nl, aI n] [aX, aX] (.one (.own 40 TEd false [])) := by
  refine FnC_of (fn := Tryz.f162) Tryz.func162 rfl rfl rfl ?_
  refine stpC ?_ ?_ ?_ ?_ ?_ ?_ ?_ ?_ ?_ ?_ ?_ ?_ ?_ ?_ ?_ ?_ <;> (first | exact Mk.mk | exact trivial | (repeat intro hq))
def sumA {α : Type} (xss : List (List α)) : Nat := xss.flatten.length
theorem sumA_take {α : Type} {xss : List (List α)} {i : Nat} (h : i < xss.length) (d : List α) : sumA (xss.take (i + 1)) = sumA (xss.take i) + (xss.getD i d).length := by
  rw [take1 h d, sumA, sumA, List.flatten_append, List.length_append, List.flatten_singleton]
theorem sumA_le {α : Type} {xss : List (List α)} {i : Nat} : sumA (xss.take i) ≤ sumA xss := by
  have : sumA xss = sumA (xss.take i) + sumA (xss.drop i) := by
    unfold sumA; rw [← List.length_append, ← List.flatten_append, List.take_append_drop]
  omega
theorem flatA {α : Type} {xss : List (List α)} {i : Nat} (h : i < xss.length) (d : List α) : (xss.take (i + 1)).flatten = (xss.take i).flatten ++ xss.getD i d := by
  rw [take1 h d, List.flatten_append, List.flatten_singleton]
set_option maxHeartbeats 4000000 in
set_option maxRecDepth 20000 in
theorem concatE_ok (xss : List (List Ed)) (hn : xss.length ≤ 1000000) (hl : sumA xss ≤ 100000000) : FnC Tryz.prog 141 [.c (.d (.sl (.sl TEd)) xss)] [aX] (.one (.own 40 TEd false xss.flatten)) := by
  refine FnC_of (fn := Tryz.f141) Tryz.func141 rfl rfl rfl ?_
  refine stp ?_ ?_ ?_ ?_ ?_ ?_ ?_ ?_ ?_ ?_ ?_ ?_ ?_ ?_ ?_ ?_ <;> (first | exact Mk.mk | exact trivial | (repeat intro hq))
  refine W_loopT (fun i : Nat => St.tmpl 36 [(0, .one (.d (.sl (.sl TEd)) xss)), (3, .one (.d (.i .i64) (sumA (xss.take i) : Nat))), (9, .one (.d (.sl (.sl TEd)) xss)), (10, .one (.d (.i .i64) (xss.length : Nat))), (11, .one (.d (.i .i64) (i : Int)))] []) (fun i => i ≤ xss.length) (fun i => xss.length - i) 0 (Nat.zero_le _) ?_ ?_
  · exact Wk_tmpl [] ⟨rfl, rfl, rfl, rfl, rfl, trivial⟩ trivial rfl rfl
  · intro i hi
    have hs := sumA_le (xss := xss) (i := i)
    have hs1 := sumA_le (xss := xss) (i := i + 1)
    have ht := fun h : i < xss.length => sumA_take h (dflt (.sl TEd))
    have zD1 := fun {z0} zh => growE_ok z0 zh
    refine stp ?_ ?_ ?_ ?_ ?_ ?_ ?_ ?_ ?_ ?_ ?_ ?_ ?_ ?_ ?_ ?_ <;> (first | exact Mk.mk | exact trivial | (repeat intro hq))
    · have hlt : i < xss.length := by simpa using hq
      refine ⟨i + 1, by omega, by omega, Wk_tmpl [] ⟨rfl, ?_, rfl, rfl, rfl, trivial⟩ trivial rfl rfl⟩
      refine congrArg (fun r => SV.one (C.d (Ty.i IntKind.i64) r)) ?_
      show (sumA (xss.take i) : Int) + ((xss.getD i (dflt (.sl TEd))).length : Nat) = _
      rw [ht hlt, Int.natCast_add]
    · refine W_loopT (fun i : Nat => St.tmpl 36 [(6, .one (.rf 7000 .ar)), (25, .one (.d (.sl (.sl TEd)) xss)), (26, .one (.d (.i .i64) (xss.length : Nat))), (27, .one (.d (.i .i64) (i : Int)))] [(7000, .rows 40 TEd false (xss.take i).flatten)]) (fun i => i ≤ xss.length) (fun i => xss.length - i) 0 (Nat.zero_le _) ?_ ?_
      · exact Wk_tmpl [(7000, 25000)] ⟨rfl, rfl, rfl, rfl, trivial⟩ ⟨rfl, trivial⟩ rfl rfl
      · intro j hj
        have hs := sumA_le (xss := xss) (i := j)
        have hs1 := sumA_le (xss := xss) (i := j + 1)
        have ht := fun h : j < xss.length => sumA_take h (dflt (.sl TEd))
        unfold sumA at hs hs1 ht hl
        refine stp ?_ ?_ ?_ ?_ ?_ ?_ ?_ ?_ ?_ ?_ ?_ ?_ ?_ ?_ ?_ ?_ <;> (first | exact Mk.mk | exact trivial | (repeat intro hq))
        · have hlt : j < xss.length := by simpa using hq
          have := ht hlt
          show (xss.take j).flatten.length + (xss.getD j (dflt (.sl TEd))).length ≤ maxLen
          unfold maxLen; omega
        · have hlt : j < xss.length := by simpa using hq
          refine ⟨j + 1, by omega, by omega, Wk_tmpl [(7000, 34000)] ⟨rfl, rfl, rfl, rfl, trivial⟩ ⟨?_, trivial⟩ rfl rfl⟩
          refine congrArg (fun r => some (Ob.rows 40 TEd false r)) ?_
          exact (flatA hlt _).symm
        · have e : j = xss.length := by simp at hq; omega
          rw [e, List.take_length]
end Go.LX

set_option linter.unusedVariables false
set_option linter.unusedSimpArgs false
namespace Go.LX
open Go.Proofs
attribute [local irreducible] W WO OpW RW EndQ
set_option maxHeartbeats 4000000 in
set_option maxRecDepth 20000 in
theorem notfit_ok (t : List UInt8) (e : Ed) (hl : t.length ≤ 16777216) (hp : e.2.2.length ≤ 16777216) : FnC Tryz.prog 142 ([aEd e] ++ capA [⟨.sl .u8, t⟩]) ([aEd0] ++ [(⟨.sl .u8, t⟩ : Σ t : Ty, t.T)].map fun _ => aX) (.one (sB (!fitB t e))) := by
  have k1 := fits_ok t e hl hp
  refine FnC_of (fn := Tryz.f142) Tryz.func142 rfl rfl rfl ?_
  have zD1 := fun (zh : True) => k1
  refine stp ?_ ?_ ?_ ?_ ?_ ?_ ?_ ?_ ?_ ?_ ?_ ?_ ?_ ?_ ?_ ?_ <;> (first | exact Mk.mk | exact trivial | (repeat intro hq))
noncomputable def okM (t : List UInt8) (ms : List Mb) (i : Nat) : Bool := (ssB (ms.getD i (dflt TMb)).1 && (!(decide (0 < (i : Int)) && decide ((ms.getD i (dflt TMb)).1 ≤ (ms.getD (i - 1) (dflt TMb)).1)) && (cutB t (ms.getD i (dflt TMb)).2.1.1 && (cutB t (ms.getD i (dflt TMb)).2.1.2 && (allS (ms.getD i (dflt TMb)).2.2.1 && allS (ms.getD i (dflt TMb)).2.2.2))))) && ((ms.getD i (dflt TMb)).2.2.1.all (fitB t) && (ms.getD i (dflt TMb)).2.2.2.all (fitB t))
noncomputable def mbsB (t : List UInt8) (ms : List Mb) : Bool := decide ((ms.length : Int) ≤ 8) && (List.range ms.length).all (okM t ms)
theorem okM_int (t : List UInt8) (ms : List Mb) (i : Nat) : okM t ms i = ((ssB (ms.getD (i : Int).toNat (dflt TMb)).1 && (!(decide (0 < (i : Int)) && decide ((ms.getD (i : Int).toNat (dflt TMb)).1 ≤ (ms.getD ((i : Int) - 1).toNat (dflt TMb)).1)) && (cutB t (ms.getD (i : Int).toNat (dflt TMb)).2.1.1 && (cutB t (ms.getD (i : Int).toNat (dflt TMb)).2.1.2 && (allS (ms.getD (i : Int).toNat (dflt TMb)).2.2.1 && allS (ms.getD (i : Int).toNat (dflt TMb)).2.2.2))))) && ((ms.getD (i : Int).toNat (dflt TMb)).2.2.1.all (fitB t) && (ms.getD (i : Int).toNat (dflt TMb)).2.2.2.all (fitB t))) := by
  rw [okM, show ((i : Int) - 1).toNat = i - 1 by omega]
  rfl
theorem all_app {α : Type} {p : α → Bool} {xs ys : List α} : (xs.all p && ys.all p) = !([xs, ys].flatten.any fun e => !p e) := by
  rw [any_not]; simp
set_option maxHeartbeats 4000000 in
set_option maxRecDepth 20000 in
theorem aremembers_ok (t : List UInt8) (ms : List Mb) (hl : t.length ≤ 16777216) (hw : bn 1048576 (.sl TMb) ms) : FnC Tryz.prog 97 [aMbs ms, aBy t] [aX, aX] (.one (sB (mbsB t ms))) := by
  have lm := hw.1
  unfold mbsB
  refine FnC_of (fn := Tryz.f97) Tryz.func97 rfl rfl rfl ?_
  refine stp ?_ ?_ ?_ ?_ ?_ ?_ ?_ ?_ ?_ ?_ ?_ ?_ ?_ ?_ ?_ ?_ <;> (first | exact Mk.mk | exact trivial | (repeat intro hq))
  refine W.weak (Wk_fix (o := 4000) (t := .sl .u8) (x := t) rfl (by decide) rfl) ?_
  refine W_loopT (fun i : Nat => St.tmpl 69 [(0, .one (.d (.sl TMb) ms)), (3, .one (.pd (.sl .u8) t 0)), (7, .one (.d (.sl TMb) ms)), (8, .one (.d (.i .i64) (ms.length : Nat))), (9, .one (.d (.i .i64) (i : Int)))] []) (fun i => i ≤ ms.length ∧ ∀ j, j < i → okM t ms j = true) (fun i => ms.length - i) 0 ⟨Nat.zero_le _, fun j h => absurd h (Nat.not_lt_zero _)⟩ ?_ ?_
  · exact Wk_tmpl [] ⟨rfl, rfl, rfl, rfl, rfl, trivial⟩ trivial rfl rfl
  · rintro i ⟨hi, hj⟩
    rcases Nat.lt_or_ge i ms.length with hlt | hge
    · have e := okM_int t ms i
      have hm : bn 1048576 TMb (ms.getD (i : Int).toNat (dflt TMb)) := bn_get hw i
      obtain ⟨_, _, ⟨u1, u2⟩, v1, v2⟩ := hm
      have k1 := fun a => iscut_ok t a hl
      have k2 := isstack_ok (ms.getD (i : Int).toNat (dflt TMb)).2.2.1 (ms.getD (i : Int).toNat (dflt TMb)).2.2.2 (Nat.le_trans u1 (by decide)) (Nat.le_trans v1 (by decide))
      have k3 := concatE_ok [(ms.getD (i : Int).toNat (dflt TMb)).2.2.1, (ms.getD (i : Int).toNat (dflt TMb)).2.2.2] (by simp) (by simp only [sumA, List.flatten_cons, List.flatten_nil, List.length_append, List.length_nil]; omega)
      have k4 := containsE_ok 142 [⟨.sl .u8, t⟩] (fun e => !fitB t e) rfl ([(ms.getD (i : Int).toNat (dflt TMb)).2.2.1, (ms.getD (i : Int).toNat (dflt TMb)).2.2.2].flatten) (fun e he => notfit_ok t e hl (by
        simp only [List.flatten_cons, List.flatten_nil, List.append_nil, List.mem_append] at he
        rcases he with he | he
        · exact Nat.le_trans (u2 e he).2.2.1 (by decide)
        · exact Nat.le_trans (v2 e he).2.2.1 (by decide))) (by simp only [List.flatten_cons, List.flatten_nil, List.length_append, List.length_nil]; omega)
      rw [all_app] at e
      skip
      have zD1 := fun {z0} (zh : True) => issess_ok z0
      have zD2 := fun {z0} (zh : True) => k1 z0
      have zD3 := fun (zh : True) => k2
      refine stp ?_ ?_ ?_ ?_ ?_ ?_ ?_ ?_ ?_ ?_ ?_ ?_ ?_ ?_ ?_ ?_ <;> (first | exact Mk.mk | exact trivial | (repeat intro hq))
      all_goals try
        (rw [all_stop hlt ?_, Bool.and_false]
         rw [e]
         clear k1 k2 k3 k4 u2 v2 hj
         generalize ms.getD (i : Int).toNat (dflt TMb) = m at *
         generalize (ms.getD ((i : Int) - 1).toNat (dflt TMb)).1 = p at *
         clear e
         generalize allS m.2.2.1 = b4 at *
         generalize allS m.2.2.2 = b5 at *
         cases b4 <;> cases b5 <;> simp_all
         done)
      all_goals
        refine OpW_weak (Wk_freeze (o := 62000) rfl) ?_
        have zD1 := fun (zh : True) => k3
        have zE1 := fun (zh : True) => k4
        refine stp ?_ ?_ ?_ ?_ ?_ ?_ ?_ ?_ ?_ ?_ ?_ ?_ ?_ ?_ ?_ ?_ <;> (first | exact Mk.mk | exact trivial | (repeat intro hq))
        all_goals first
          | (refine ⟨i + 1, by omega, ⟨by omega, all_more hj ?_⟩, Wk_tmpl [] ⟨rfl, rfl, rfl, rfl, rfl, trivial⟩ trivial rfl rfl⟩
             rw [e, hq]
             clear k1 k2 k3 k4 u2 v2 hj
             generalize ms.getD (i : Int).toNat (dflt TMb) = m at *
             generalize (ms.getD ((i : Int) - 1).toNat (dflt TMb)).1 = p at *
             clear e
             generalize allS m.2.2.1 = b4 at *
             generalize allS m.2.2.2 = b5 at *
             cases b4 <;> cases b5 <;> simp_all
             done)
          | (rw [all_stop hlt ?_, Bool.and_false]
             rw [e, hq, Bool.not_true, Bool.and_false]
             done)
    · obtain rfl : i = ms.length := by omega
      refine stp ?_ ?_ ?_ ?_ ?_ ?_ ?_ ?_ ?_ ?_ ?_ ?_ ?_ ?_ ?_ ?_ <;> (first | exact Mk.mk | exact trivial | (repeat intro hq))
      rw [all_go hj, Bool.and_true]
end Go.LX

