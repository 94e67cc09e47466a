/- A part of the proof of the statement in the row text. -/
import Derived.Test.YtojaiockbpcilaaDoorLvO4
import Derived.Test.YtojaiockbpcilaaDoorLxOpen
import Derived.Test.YtojaiockbpcilaaDoorLxStpW
set_option linter.unusedVariables false
set_option linter.unusedSimpArgs false
namespace Go.LX
open Go.Proofs
attribute [local irreducible] W WO OpW RW EndQ
/-- What is left of a measure. -/
def szl (n : Int) (k : Nat) : Int := if n - k < 0 then -1 else n - k
set_option maxHeartbeats 4000000 in
set_option maxRecDepth 20000 in
theorem szreq_ok (k s a b c : Int) (t : List UInt8) (n : Int) (hn : -1 ≤ n ∧ n ≤ 1048576) (hl : t.length ≤ 9223372036854775807) : FnC Tryd.prog 74 [aReq k s a b c t, aI n] [aReq0, aX] (.one (sI (szl n t.length))) := by
  have h := szb_ok t n hn hl
  rw [← szl] at h
  by_cases hz : n - t.length < 0
  · rw [szl, if_pos hz] at h ⊢
    refine FnC_of (fn := Tryd.f74) Tryd.func74 rfl rfl rfl ?_
    have zD1 := fun (zh : True) => h
    refine stp ?_ ?_ ?_ ?_ ?_ ?_ ?_ ?_ ?_ ?_ ?_ ?_ ?_ ?_ ?_ ?_ <;> (first | exact Mk.mk | exact trivial | (repeat intro hq))
  · rw [szl, if_neg hz] at h ⊢
    refine FnC_of (fn := Tryd.f74) Tryd.func74 rfl rfl rfl ?_
    have zD1 := fun (zh : True) => h
    refine stp ?_ ?_ ?_ ?_ ?_ ?_ ?_ ?_ ?_ ?_ ?_ ?_ ?_ ?_ ?_ ?_ <;> (first | exact Mk.mk | exact trivial | (repeat intro hq))
set_option maxHeartbeats 4000000 in
set_option maxRecDepth 20000 in
theorem szrep_ok (k a b : Int) (t : List UInt8) (n : Int) (hn : -1 ≤ n ∧ n ≤ 1048576) (hl : t.length ≤ 9223372036854775807) : FnC Tryd.prog 75 [aRep k a b t, aI n] [aRep0, aX] (.one (sI (szl n t.length))) := by
  have h := szb_ok t n hn hl
  rw [← szl] at h
  by_cases hz : n - t.length < 0
  · rw [szl, if_pos hz] at h ⊢
    refine FnC_of (fn := Tryd.f75) Tryd.func75 rfl rfl rfl ?_
    have zD1 := fun (zh : True) => h
    refine stp ?_ ?_ ?_ ?_ ?_ ?_ ?_ ?_ ?_ ?_ ?_ ?_ ?_ ?_ ?_ ?_ <;> (first | exact Mk.mk | exact trivial | (repeat intro hq))
  · rw [szl, if_neg hz] at h ⊢
    refine FnC_of (fn := Tryd.f75) Tryd.func75 rfl rfl rfl ?_
    have zD1 := fun (zh : True) => h
    refine stp ?_ ?_ ?_ ?_ ?_ ?_ ?_ ?_ ?_ ?_ ?_ ?_ ?_ ?_ ?_ ?_ <;> (first | exact Mk.mk | exact trivial | (repeat intro hq))
set_option maxHeartbeats 4000000 in
set_option maxRecDepth 20000 in
theorem szout_ok (o : OutR) (h1 : o.rt.length ≤ 9223372036854775807) (h2 : o.pt.length ≤ 9223372036854775807) : FnC Tryd.prog 41 [aOut o, aI 1048576] [aOut0, aX] (.one (sI (if o.rt.length + o.pt.length ≤ 1048576 then 1048576 - o.rt.length - o.pt.length else -1))) := by
  have k1 := szreq_ok o.r0 o.r1 o.r2 o.r3 o.r4 o.rt 1048576 (by decide) h1
  by_cases z1 : (1048576 : Int) - o.rt.length < 0
  · rw [szl, if_pos z1] at k1
    rw [if_neg (by omega)]
    refine FnC_of (fn := Tryd.f41) Tryd.func41 rfl rfl rfl ?_
    have zD1 := fun (zh : True) => k1
    refine stp ?_ ?_ ?_ ?_ ?_ ?_ ?_ ?_ ?_ ?_ ?_ ?_ ?_ ?_ ?_ ?_ <;> (first | exact Mk.mk | exact trivial | (repeat intro hq))
  · rw [szl, if_neg z1] at k1
    have k2 := szrep_ok o.p0 o.p1 o.p2 o.pt (1048576 - o.rt.length) (by omega) h2
    by_cases z2 : (1048576 : Int) - o.rt.length - o.pt.length < 0
    · rw [szl, if_pos z2] at k2
      rw [if_neg (by omega)]
      refine FnC_of (fn := Tryd.f41) Tryd.func41 rfl rfl rfl ?_
      have zD1 := fun (zh : True) => k1
      have zD2 := fun (zh : True) => k2
      refine stp ?_ ?_ ?_ ?_ ?_ ?_ ?_ ?_ ?_ ?_ ?_ ?_ ?_ ?_ ?_ ?_ <;> (first | exact Mk.mk | exact trivial | (repeat intro hq))
    · rw [szl, if_neg z2] at k2
      rw [if_pos (by omega)]
      refine FnC_of (fn := Tryd.f41) Tryd.func41 rfl rfl rfl ?_
      have zD1 := fun (zh : True) => k1
      have zD2 := fun (zh : True) => k2
      refine stp ?_ ?_ ?_ ?_ ?_ ?_ ?_ ?_ ?_ ?_ ?_ ?_ ?_ ?_ ?_ ?_ <;> (first | exact Mk.mk | exact trivial | (repeat intro hq))
set_option maxHeartbeats 4000000 in
set_option maxRecDepth 20000 in
theorem iouttext_ok (o : OutR) (h : OutW o) (hl : o.pt.length ≤ 16777216) : FnC Tryd.prog 44 [aOut o] [aOut0] (.one (.d .st (outL o))) := by
  have h0 := iouttext0_ok o h hl
  refine FnC_of (fn := Tryd.f44) Tryd.func44 rfl rfl rfl ?_
  have zD1 := fun (zh : True) => h0
  refine stp ?_ ?_ ?_ ?_ ?_ ?_ ?_ ?_ ?_ ?_ ?_ ?_ ?_ ?_ ?_ ?_ <;> (first | exact Mk.mk | exact trivial | (repeat intro hq))
set_option maxHeartbeats 4000000 in
set_option maxRecDepth 20000 in
theorem lawOT_big (o : OutR) (h1 : o.rt.length ≤ 9223372036854775807) (h2 : o.pt.length ≤ 9223372036854775807) (hl : ¬ o.rt.length + o.pt.length ≤ 1048576) : FnC Tryd.prog 9 [aOut o] [aOut0] (.one (sB true)) := by
  have k1 := szout_ok o h1 h2
  rw [if_neg hl] at k1
  refine FnC_of (fn := Tryd.f9) Tryd.func9 rfl rfl rfl ?_
  have zD1 := fun (zh : True) => k1
  refine stp ?_ ?_ ?_ ?_ ?_ ?_ ?_ ?_ ?_ ?_ ?_ ?_ ?_ ?_ ?_ ?_ <;> (first | exact Mk.mk | exact trivial | (repeat intro hq))
set_option maxHeartbeats 4000000 in
set_option maxRecDepth 20000 in
theorem lawOT_sm (o : OutR) (h : OutW o) (hl : o.rt.length + o.pt.length ≤ 1048576) : FnC Tryd.prog 9 [aOut o] [aOut0] (.one (sB true)) := by
  have k1 := szout_ok o (by omega) (by omega)
  rw [if_pos hl] at k1
  have k2 := toout_ok o (by omega) (by omega)
  have k3 := souttext_ok o h (by omega)
  have k4 := iouttext_ok o h (by omega)
  have k5 := eqout_ok o (by omega) (by omega)
  generalize outL o = s at *
  refine FnC_of (fn := Tryd.f9) Tryd.func9 rfl rfl rfl ?_
  have zD1 := fun (zh : True) => k1
  have zD2 := fun (zh : True) => k2
  have zE1 := fun (zh : True) => k3
  have zE2 := fun (zh : True) => k4
  have zE3 := fun (zh : True) => k5
  refine stp ?_ ?_ ?_ ?_ ?_ ?_ ?_ ?_ ?_ ?_ ?_ ?_ ?_ ?_ ?_ ?_ <;> (first | exact Mk.mk | exact trivial | (repeat intro hq))
abbrev TReq : Ty := .pr (.i .i64) (.pr (.i .i64) (.pr (.i .i64) (.pr (.i .i64) (.pr (.i .i64) (.sl .u8)))))
abbrev TRep : Ty := .pr (.i .i64) (.pr (.i .i64) (.pr (.i .i64) (.sl .u8)))
abbrev TOut : Ty := .pr (.i .i64) (.pr (.i .i64) (.pr TReq (.pr (.i .i64) TRep)))
def outOf (z : TOut.T) : OutR := ⟨z.1, z.2.1, z.2.2.1.1, z.2.2.1.2.1, z.2.2.1.2.2.1, z.2.2.1.2.2.2.1, z.2.2.1.2.2.2.2.1, z.2.2.1.2.2.2.2.2, z.2.2.2.1, z.2.2.2.2.1, z.2.2.2.2.2.1, z.2.2.2.2.2.2.1, z.2.2.2.2.2.2.2⟩
theorem in64 {n : Int} (h : WfT (.i .i64) n) : In64 n := by
  have h : (Lit.int .i64 n).wf = true := h
  simp only [Lit.wf, Bool.and_eq_true, decide_eq_true_eq] at h
  exact h
theorem lawOT_ok (z : TOut.T) (hw : WfT TOut z) : FnC Tryd.prog 9 [.ag (cellsS TOut z)] [aOut0] (.one (sB true)) := by
  obtain ⟨w0, w1, ⟨_, _, _, _, _, wr, _⟩, _, w2, w3, w4, wp, _⟩ := hw
  show FnC Tryd.prog 9 [aOut (outOf z)] [aOut0] (.one (sB true))
  by_cases hl : (outOf z).rt.length + (outOf z).pt.length ≤ 1048576
  · exact lawOT_sm _ ⟨in64 w0, in64 w1, in64 w2, in64 w3, in64 w4⟩ hl
  · exact lawOT_big _ (Nat.le_trans wr (by decide)) (Nat.le_trans wp (by decide)) hl
end Go.LX
