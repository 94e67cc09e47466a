/- A part of the proof of the statement in the row text. -/
import Derived.Test.YtojaiockbpcilaaDoorLzW2
import Derived.Test.YtojaiockbpcilaaDoorLzW0
import Derived.Test.YtojaiockbpcilaaDoorLzE9
import Derived.Test.YtojaiockbpcilaaDoorLxDat
set_option linter.unusedVariables false
set_option linter.unusedSimpArgs false
namespace Go.LX
open Go.Proofs
attribute [local irreducible] W WO OpW RW EndQ
set_option maxHeartbeats 4000000 in
set_option maxRecDepth 20000 in
theorem lawMV_big (code : List UInt8) (hl : 1048576 < code.length) : FnC Tryd.prog 7 [aBy code] [aX] (.one (sB true)) := by
  refine FnC_of (fn := Tryd.f7) Tryd.func7 rfl rfl rfl ?_
  have zD1 := fun {z0} (zh : True) => big_ok z0
  refine stp ?_ ?_ ?_ ?_ ?_ ?_ ?_ ?_ ?_ ?_ <;> (first | exact Mk.mk | exact trivial | (repeat intro hq))
set_option maxHeartbeats 4000000 in
set_option maxRecDepth 20000 in
theorem lawMV_no (code t t' : List UInt8) (e b : Ed) (hl : code.length ≤ 1048576) (ht : t.length ≤ 1001) (hp : e.2.2.length ≤ 1001) (hq : b.2.2.length ≤ 1001) (hd : FnC Tryd.prog 24 [aBy code] [aX] (.tu [(false, [sBy t]), (true, [sI e.1, sI e.2.1, oBy e.2.2])])) (hd2 : FnC Tryd.prog 18 [aBy code] [aX] (.tu [(false, [sBy t']), (true, [sI b.1, sI b.2.1, oBy b.2.2])]))
    (h : (eokM t e && eokM t b) = false) : FnC Tryd.prog 7 [aBy code] [aX] (.one (sB true)) := by
  have h3 := editok_ok t e (by omega) (by omega)
  have h4 := editok_ok t b (by omega) (by omega)
  have h5 := ieditok_ok t e (by omega) (by omega)
  refine FnC_of (fn := Tryd.f7) Tryd.func7 rfl rfl rfl ?_
  have zD1 := fun {z0} (zh : True) => big_ok z0
  have zD2 := fun (zh : True) => hd
  have zD3 := fun (zh : True) => hd2
  refine stpD ?_ ?_ ?_ ?_ ?_ ?_ ?_ ?_ ?_ ?_ <;> (first | exact Mk.mk | exact trivial | (repeat intro hq))
  refine OpW_weak (Wk_freeze (o := 18003) rfl) ?_
  refine OpW_weak (Wk_freeze (o := 23003) rfl) ?_
  have zD1 := fun (zh : True) => h3
  have zD2 := fun (zh : True) => h4
  have zD3 := fun (zh : True) => h5
  refine stp ?_ ?_ ?_ ?_ ?_ ?_ ?_ ?_ ?_ ?_ <;> (first | exact Mk.mk | exact trivial | (repeat intro hq))
  all_goals first
    | (exact decide_eq_true rfl)
    | (simp_all; done)
set_option maxHeartbeats 4000000 in
set_option maxRecDepth 20000 in
theorem lawMV_main (code t t' : List UInt8) (e b : Ed) (hl : code.length ≤ 1048576) (ht : t.length ≤ 1001) (hp : e.2.2.length ≤ 1001) (hq : b.2.2.length ≤ 1001) (hd : FnC Tryd.prog 24 [aBy code] [aX] (.tu [(false, [sBy t]), (true, [sI e.1, sI e.2.1, oBy e.2.2])])) (hd2 : FnC Tryd.prog 18 [aBy code] [aX] (.tu [(false, [sBy t']), (true, [sI b.1, sI b.2.1, oBy b.2.2])]))
    (a2 : eokM t e = true) (a3 : eokM t b = true) : FnC Tryd.prog 7 [aBy code] [aX] (.one (sB true)) := by
  have h3 := editok_ok t e (by omega) (by omega)
  have h4 := editok_ok t b (by omega) (by omega)
  have h7 := sdo_yes t b (by omega) (by omega) a3
  obtain ⟨p1, p2, p3, p4, p5⟩ := eokM_ok (by omega) a2
  obtain ⟨q1, q2, q3, q4, q5⟩ := eokM_ok (by omega) a3
  have se : smE e = true := by
    simp only [smE, Bool.and_eq_true, decide_eq_true_eq]; omega
  have sb : smE b = true := by
    simp only [smE, Bool.and_eq_true, decide_eq_true_eq]; omega
  have h5 := imove_ok e b (by omega) (by omega)
  rw [mvR_one, if_pos (by rw [se, sb]; rfl)] at h5
  have h6 := smove_ok e b se sb
  have l1 := doE_len (t := t) (e := b)
  have k := tok_do (by omega) a3
  obtain ⟨m1, m2, m3⟩ := moved_cuts (by omega) a2 a3
  have h8 := sameedit_ok (mvE e b) (mvE e b) (by show e.2.2.length ≤ _; omega) (by show e.2.2.length ≤ _; omega)
  rw [sameE_refl] at h8
  have h9 := icutok_ok (doE t b) (mvE e b).1 (by omega)
  have h10 := icutok_ok (doE t b) ((mvE e b).1 + (mvE e b).2.1) (by omega)
  rw [k, m1] at h9
  rw [k, m2] at h10
  have hput : (mvE e b).2.2 = e.2.2 := rfl
  rw [a2] at h3
  rw [a3] at h4
  have ⟨s1, s2, s3⟩ : (0 ≤ (mvE e b).1 ∧ (mvE e b).1 ≤ 1200) ∧ (0 ≤ (mvE e b).2.1 ∧ (mvE e b).2.1 ≤ 1200) ∧ True := by
    have := spI_in sb (i := e.1) (j := e.1 + e.2.1) ⟨by omega, by omega⟩ ⟨by omega, by omega⟩
    simp only [mvE]
    exact ⟨by omega, by omega, trivial⟩
  simp only [Option.getD_some, hput] at h5 h6
  refine FnC_of (fn := Tryd.f7) Tryd.func7 rfl rfl rfl ?_
  have zD1 := fun {z0} (zh : True) => big_ok z0
  have zD2 := fun (zh : True) => hd
  have zD3 := fun (zh : True) => hd2
  refine stpD ?_ ?_ ?_ ?_ ?_ ?_ ?_ ?_ ?_ ?_ <;> (first | exact Mk.mk | exact trivial | (repeat intro hq))
  refine OpW_weak (Wk_freeze (o := 18003) rfl) ?_
  refine OpW_weak (Wk_freeze (o := 23003) rfl) ?_
  have zD1 := fun (zh : True) => h3
  have zD2 := fun (zh : True) => h4
  have zD3 := fun (zh : True) => h7
  have zD4 := fun (zh : True) => h5
  have zD5 := fun (zh : True) => h6
  have zE1 := fun (zh : True) => h8
  have zE2 := fun (zh : True) => h9
  have zE3 := fun (zh : True) => h10
  refine stpG ?_ ?_ ?_ ?_ ?_ ?_ ?_ ?_ ?_ ?_ <;> (first | exact Mk.mk | exact trivial | (repeat intro hq))
  all_goals first
    | (simp_all; done)
theorem lawMV_ok (code : List UInt8) (hw : WfT (.sl .u8) code) : FnC Tryd.prog 7 [aBy code] [aX] (.one (sB true)) := by
  by_cases hl : code.length ≤ 1048576
  · obtain ⟨r, h1, h2, hd⟩ := drawed_ex code (by omega)
    obtain ⟨r2, h3, h4, hd2⟩ := draweb_ex code (by omega)
    cases h : (eokM r.1 r.2 && eokM r.1 r2.2) with
    | true =>
      simp only [Bool.and_eq_true] at h
      exact lawMV_main code r.1 r2.1 r.2 r2.2 hl h1 h2 h4 hd hd2 h.1 h.2
    | false => exact lawMV_no code r.1 r2.1 r.2 r2.2 hl h1 h2 h4 hd hd2 h
  · exact lawMV_big code (by omega)
end Go.LX
