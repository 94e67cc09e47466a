/- A part of the proof of the statement in the row text. -/
import Derived.Test.YtkpohcfohnmejaaGreatDoorLzN1
import Derived.Test.YtkpohcfohnmejaaGreatDoorLzA6
import Derived.Test.YtkpohcfohnmejaaGreatDoorLxStpL
set_option linter.unusedVariables false
set_option linter.unusedSimpArgs false
namespace Go.LX
open Go.Proofs
attribute [local irreducible] W WO OpW RW EndQ
abbrev aSe (x : Se) : SA := .ag [sI x.1, sI x.2]
abbrev aSe0 : SA := .ag [.any, .any]
abbrev aSk (x : Sk) : SA := .ag [.d (.sl TEd) x.1, .d (.sl TEd) x.2]
abbrev aSk0 : SA := .ag [.any, .any]
set_option maxHeartbeats 4000000 in
set_option maxRecDepth 20000 in
theorem szEdit_ok (x : Ed) (n : Int) (h0 : 0 ≤ n ∧ n ≤ 1000000000) (hw : Wf TEd x) : FnC Tryz.prog 126 [aEd x, aI n] [aEd0, aX] (.one (sI (szL n (szT TEd x)))) := by
  have hs : szT TEd x = 0 + (0 + (szT (.sl .u8) x.2.2)) := rfl
  by_cases c1 : (szT (.sl .u8) x.2.2 : Nat) ≤ (n : Int)
  · have k1 := szby_ok x.2.2 (n) (by omega) (wfPr (wfPr hw))
    rw [szL_yes c1] at k1
    rw [szL_yes (n := n) (m := szT TEd x) (by rw [hs]; omega), show (n - (szT TEd x : Nat) : Int) = n - (szT (.sl .u8) x.2.2 : Nat) by rw [hs]; omega]
    refine FnC_of (fn := Tryz.f126) Tryz.func126 rfl rfl rfl ?_
    have zD1 := fun (zh : True) => k1
    refine stp ?_ ?_ ?_ ?_ ?_ ?_ ?_ ?_ ?_ ?_ ?_ ?_ ?_ ?_ ?_ ?_ <;> (first | exact Mk.mk | exact trivial | (repeat intro hq))
  · have k1 := szby_ok x.2.2 (n) (by omega) (wfPr (wfPr hw))
    rw [szL_no c1] at k1
    rw [szL_no (n := n) (m := szT TEd x) (by rw [hs]; omega)]
    refine FnC_of (fn := Tryz.f126) Tryz.func126 rfl rfl rfl ?_
    have zD1 := fun (zh : True) => k1
    refine stp ?_ ?_ ?_ ?_ ?_ ?_ ?_ ?_ ?_ ?_ ?_ ?_ ?_ ?_ ?_ ?_ <;> (first | exact Mk.mk | exact trivial | (repeat intro hq))
set_option maxHeartbeats 4000000 in
set_option maxRecDepth 20000 in
theorem szEditS_ok (xs : List Ed) (n : Int) (h0 : 0 ≤ n ∧ n ≤ 1000000000) (hw : Wf (.sl TEd) xs) : FnC Tryz.prog 157 [.c (.d (.sl TEd) xs), aI n] [aX, aX] (.one (sI (szL n (szT (.sl TEd) xs)))) := by
  have hl : xs.length ≤ 9223372036854775807 := Nat.le_trans hw.wf.1 (by decide)
  have hz : szT (.sl TEd) xs = xs.length + (xs.map (szT TEd)).sum := rfl
  generalize szT (.sl TEd) xs = Z at hz
  subst hz
  refine FnC_of (fn := Tryz.f157) Tryz.func157 rfl rfl rfl ?_
  refine stp ?_ ?_ ?_ ?_ ?_ ?_ ?_ ?_ ?_ ?_ ?_ ?_ ?_ ?_ ?_ ?_ <;> (first | exact Mk.mk | exact trivial | (repeat intro hq))
  · have hn : n - xs.length < 0 := by simpa using hq
    exact (if_pos (by omega)).symm
  · have hn : ¬ n - xs.length < 0 := by simpa using hq
    refine W_loopT (fun i : Nat => St.tmpl 27 [(0, .one (.d (.sl TEd) xs)), (1, .one (.d (.i .i64) (n - xs.length - ((xs.take i).map (szT TEd)).sum))), (5, .one (.d (.i .i64) (i : Int)))] []) (fun i => i ≤ xs.length ∧ 0 ≤ n - xs.length - (((xs.take i).map (szT TEd)).sum : Nat)) (fun i => xs.length - i) 0 ⟨Nat.zero_le _, by simp; omega⟩ ?_ ?_
    · refine Wk_tmpl [] ⟨rfl, ?_, rfl, trivial⟩ trivial rfl rfl
      refine congrArg (fun r => SV.one (C.d (Ty.i IntKind.i64) r)) ?_
      simp
    · rintro i ⟨hi, hm⟩
      have hwi : i < xs.length → Wf TEd (xs.getD (i : Int).toNat (dflt TEd)) := fun h => wf_at hw h _
      have hst := fun h : i < xs.length => sum_take (g := szT TEd) h (dflt TEd)
      have hle := sum_le (g := szT TEd) (xs := xs) (i := i + 1)
      have zD1 := fun {z0} {z1} (zh : _ ∧ _) => szEdit_ok z0 z1 zh.1 zh.2
      refine stp ?_ ?_ ?_ ?_ ?_ ?_ ?_ ?_ ?_ ?_ ?_ ?_ ?_ ?_ ?_ ?_ <;> (first | exact Mk.mk | exact trivial | (repeat intro hq))
      · exact hwi (by simpa using hq)
      · rename_i h1
        have hlt : i < xs.length := by simpa using h1
        have h2 : szL (n - xs.length - ((xs.take i).map (szT TEd)).sum) (szT TEd (xs.getD i (dflt TEd))) < 0 := by simpa using hq
        have h3 := hst hlt
        unfold szL at h2 ⊢
        split at h2
        · rw [if_pos (by omega)]
        · omega
      · rename_i h1
        have hlt : i < xs.length := by simpa using h1
        have h2 : ¬ szL (n - xs.length - ((xs.take i).map (szT TEd)).sum) (szT TEd (xs.getD i (dflt TEd))) < 0 := by simpa using hq
        have h3 := hst hlt
        obtain ⟨h4, h5⟩ := szL_pos (n := n - xs.length - ((xs.take i).map (szT TEd)).sum) (m := (szT TEd (xs.getD i (dflt TEd)))) (by omega)
        refine ⟨i + 1, by omega, ⟨by omega, by omega⟩, Wk_tmpl [] ⟨rfl, ?_, rfl, trivial⟩ trivial rfl rfl⟩
        refine congrArg (fun r => SV.one (C.d (Ty.i IntKind.i64) r)) ?_
        refine h4.trans ?_
        omega
      · have e : i = xs.length := by simp at hq; omega
        have e2 : ((xs.take i).map (szT TEd)).sum = (xs.map (szT TEd)).sum := by rw [e, List.take_length]
        rw [e2] at hm ⊢
        have e3 : (i : Int) = xs.length := by omega
        show (_ : Int) = _
        unfold szL
        split <;> rename_i h9 <;> omega
set_option maxHeartbeats 4000000 in
set_option maxRecDepth 20000 in
theorem toEdit_ok (x : Ed) (h : Sz TEd x) : FnC Tryz.prog 133 [aEd x] [aEd0] (.ag [sI x.1, sI x.2.1, oBy x.2.2]) := by
  have k1 := toby_ok x.2.2 (szPr (szPr h))
  refine FnC_of (fn := Tryz.f133) Tryz.func133 rfl rfl rfl ?_
  have zD1 := fun (zh : True) => k1
  refine stp ?_ ?_ ?_ ?_ ?_ ?_ ?_ ?_ ?_ ?_ ?_ ?_ ?_ ?_ ?_ ?_ <;> (first | exact Mk.mk | exact trivial | (repeat intro hq))
set_option maxHeartbeats 4000000 in
set_option maxRecDepth 20000 in
theorem toEditS_ok (xs : List Ed) (h : Sz (.sl TEd) xs) : FnC Tryz.prog 158 [.c (.d (.sl TEd) xs)] [aX] (.one (.own 40 TEd true xs)) := by
  have hl := sz_len h
  refine FnC_of (fn := Tryz.f158) Tryz.func158 rfl rfl rfl ?_
  refine stp ?_ ?_ ?_ ?_ ?_ ?_ ?_ ?_ ?_ ?_ ?_ ?_ ?_ ?_ ?_ ?_ <;> (first | exact Mk.mk | exact trivial | (repeat intro hq))
  refine W_loopT (fun i : Nat => St.tmpl 23 [(0, .one (.d (.sl TEd) xs)), (3, .one (.rf 8000 .ar)), (4, .one (.d (.i .i64) (i : Int)))] [(8000, .rows 40 TEd true (partG (dflt TEd) xs i))]) (fun i => i ≤ xs.length) (fun i => xs.length - i) 0 (Nat.zero_le _) ?_ ?_
  · refine Wk_tmpl [] ⟨rfl, rfl, rfl, trivial⟩ ⟨?_, trivial⟩ rfl rfl
    exact congrArg (fun r => some (Ob.rows 40 TEd true r)) partG_0
  · intro i hi
    have hwi : i < xs.length → Sz TEd (xs.getD (i : Int).toNat (dflt TEd)) := fun h1 => sz_at h h1 _
    have hlen := partG_len (d := dflt TEd) hi
    have zD1 := fun {z0} zh => toEdit_ok z0 zh
    refine stp ?_ ?_ ?_ ?_ ?_ ?_ ?_ ?_ ?_ ?_ ?_ ?_ ?_ ?_ ?_ ?_ <;> (first | exact Mk.mk | exact trivial | (repeat intro hq))
    · exact hwi (by simpa using hq)
    · have hlt : i < xs.length := by simpa using hq
      exact ⟨i + 1, by omega, by omega, Wk_tmpl [] ⟨rfl, rfl, rfl, trivial⟩ ⟨congrArg (fun r => some (Ob.rows 40 TEd true r)) (partG_set (d := dflt TEd) hlt), trivial⟩ rfl rfl⟩
    · have : i = xs.length := by simp at hq; omega
      exact partG_all this
set_option maxHeartbeats 4000000 in
set_option maxRecDepth 20000 in
theorem eqEdit_ok (x : Ed) (h : Sz TEd x) : FnC Tryz.prog 19 [aEd x, aEd x] [aEd0, aEd0] (.one (sB true)) := by
  have k1 := eqby_ok x.2.2 (szPr (szPr h))
  refine FnC_of (fn := Tryz.f19) Tryz.func19 rfl rfl rfl ?_
  have zD1 := fun (zh : True) => k1
  refine stp ?_ ?_ ?_ ?_ ?_ ?_ ?_ ?_ ?_ ?_ ?_ ?_ ?_ ?_ ?_ ?_ <;> (first | exact Mk.mk | exact trivial | (repeat intro hq))
set_option maxHeartbeats 4000000 in
set_option maxRecDepth 20000 in
theorem eqEditS_ok (xs : List Ed) (h : Sz (.sl TEd) xs) : FnC Tryz.prog 165 [.c (.d (.sl TEd) xs), .c (.d (.sl TEd) xs)] [aX, aX] (.one (sB true)) := by
  have hl := sz_len h
  refine FnC_of (fn := Tryz.f165) Tryz.func165 rfl rfl rfl ?_
  refine stp ?_ ?_ ?_ ?_ ?_ ?_ ?_ ?_ ?_ ?_ ?_ ?_ ?_ ?_ ?_ ?_ <;> (first | exact Mk.mk | exact trivial | (repeat intro hq))
  refine W_loopT (fun i : Nat => St.tmpl 27 [(0, .one (.d (.sl TEd) xs)), (1, .one (.d (.sl TEd) xs)), (5, .one (.d (.i .i64) (i : Int)))] []) (fun i => i ≤ xs.length) (fun i => xs.length - i) 0 (Nat.zero_le _) ?_ ?_
  · exact Wk_tmpl [] ⟨rfl, rfl, rfl, trivial⟩ trivial rfl rfl
  · intro i hi
    have hwi : i < xs.length → Sz TEd (xs.getD (i : Int).toNat (dflt TEd)) := fun h1 => sz_at h h1 _
    have zD1 := fun {z0} zh => eqEdit_ok z0 zh
    refine stp ?_ ?_ ?_ ?_ ?_ ?_ ?_ ?_ ?_ ?_ ?_ ?_ ?_ ?_ ?_ ?_ <;> (first | exact Mk.mk | exact trivial | (repeat intro hq))
    · exact hwi (by simpa using hq)
    · have hlt : i < xs.length := by simp_all
      exact ⟨i + 1, by omega, by omega, Wk_tmpl [] ⟨rfl, rfl, rfl, trivial⟩ trivial rfl rfl⟩
set_option maxHeartbeats 4000000 in
set_option maxRecDepth 20000 in
theorem toSel_ok (x : Se) (h : Sz TSe x) : FnC Tryz.prog 134 [aSe x] [aSe0] (.ag [sI x.1, sI x.2]) := by
  refine FnC_of (fn := Tryz.f134) Tryz.func134 rfl rfl rfl ?_
  refine stp ?_ ?_ ?_ ?_ ?_ ?_ ?_ ?_ ?_ ?_ ?_ ?_ ?_ ?_ ?_ ?_ <;> (first | exact Mk.mk | exact trivial | (repeat intro hq))
set_option maxHeartbeats 4000000 in
set_option maxRecDepth 20000 in
theorem eqSel_ok (x : Se) (h : Sz TSe x) : FnC Tryz.prog 147 [aSe x, aSe x] [aSe0, aSe0] (.one (sB true)) := by
  refine FnC_of (fn := Tryz.f147) Tryz.func147 rfl rfl rfl ?_
  refine stp ?_ ?_ ?_ ?_ ?_ ?_ ?_ ?_ ?_ ?_ ?_ ?_ ?_ ?_ ?_ ?_ <;> (first | exact Mk.mk | exact trivial | (repeat intro hq))
theorem szT_Les {xs : List Le} : szT (.sl TLe) xs = xs.length := by
  have : ∀ l : List Le, (l.map (szT TLe)).sum = 0 := fun l => by induction l with | nil => rfl | cons a l ih => rw [List.map_cons, List.sum_cons, ih]; rfl
  show xs.length + _ = _
  rw [this, Nat.add_zero]
set_option maxHeartbeats 4000000 in
set_option maxRecDepth 20000 in
theorem szLeaseS_ok (xs : List Le) (n : Int) (h0 : 0 ≤ n ∧ n ≤ 1000000000) (hw : Wf (.sl TLe) xs) : FnC Tryz.prog 42 [.c (.d (.sl TLe) xs), aI n] [aX, aX] (.one (sI (szL n (szT (.sl TLe) xs)))) := by
  have hl : xs.length ≤ 9223372036854775807 := Nat.le_trans hw.wf.1 (by decide)
  rw [szT_Les, szL]
  refine FnC_of (fn := Tryz.f42) Tryz.func42 rfl rfl rfl ?_
  refine stp ?_ ?_ ?_ ?_ ?_ ?_ ?_ ?_ ?_ ?_ ?_ ?_ ?_ ?_ ?_ ?_ <;> (first | exact Mk.mk | exact trivial | (repeat intro hq))
  · exact (if_pos (by simpa using hq)).symm
  · exact (if_neg (by simpa using hq)).symm
set_option maxHeartbeats 4000000 in
set_option maxRecDepth 20000 in
theorem toLease_ok (x : Le) (h : Sz TLe x) : FnC Tryz.prog 93 [aLe x] [aLe0] (.ag [sI x.1, sI x.2.1, sI x.2.2.1, sI x.2.2.2]) := by
  refine FnC_of (fn := Tryz.f93) Tryz.func93 rfl rfl rfl ?_
  refine stp ?_ ?_ ?_ ?_ ?_ ?_ ?_ ?_ ?_ ?_ ?_ ?_ ?_ ?_ ?_ ?_ <;> (first | exact Mk.mk | exact trivial | (repeat intro hq))
set_option maxHeartbeats 4000000 in
set_option maxRecDepth 20000 in
theorem toLeaseS_ok (xs : List Le) (h : Sz (.sl TLe) xs) : FnC Tryz.prog 46 [.c (.d (.sl TLe) xs)] [aX] (.one (.own 87 TLe false xs)) := by
  have hl := sz_len h
  refine FnC_of (fn := Tryz.f46) Tryz.func46 rfl rfl rfl ?_
  refine stp ?_ ?_ ?_ ?_ ?_ ?_ ?_ ?_ ?_ ?_ ?_ ?_ ?_ ?_ ?_ ?_ <;> (first | exact Mk.mk | exact trivial | (repeat intro hq))
  refine W_loopT (fun i : Nat => St.tmpl 23 [(0, .one (.d (.sl TLe) xs)), (3, .one (.rf 8000 .ar)), (4, .one (.d (.i .i64) (i : Int)))] [(8000, .rows 87 TLe false (partG (dflt TLe) xs i))]) (fun i => i ≤ xs.length) (fun i => xs.length - i) 0 (Nat.zero_le _) ?_ ?_
  · refine Wk_tmpl [] ⟨rfl, rfl, rfl, trivial⟩ ⟨?_, trivial⟩ rfl rfl
    exact congrArg (fun r => some (Ob.rows 87 TLe false r)) partG_0
  · intro i hi
    have hwi : i < xs.length → Sz TLe (xs.getD (i : Int).toNat (dflt TLe)) := fun h1 => sz_at h h1 _
    have hlen := partG_len (d := dflt TLe) hi
    have zD1 := fun {z0} zh => toLease_ok z0 zh
    refine stp ?_ ?_ ?_ ?_ ?_ ?_ ?_ ?_ ?_ ?_ ?_ ?_ ?_ ?_ ?_ ?_ <;> (first | exact Mk.mk | exact trivial | (repeat intro hq))
    · exact hwi (by simpa using hq)
    · have hlt : i < xs.length := by simpa using hq
      exact ⟨i + 1, by omega, by omega, Wk_tmpl [] ⟨rfl, rfl, rfl, trivial⟩ ⟨congrArg (fun r => some (Ob.rows 87 TLe false r)) (partG_set (d := dflt TLe) hlt), trivial⟩ rfl rfl⟩
    · have : i = xs.length := by simp at hq; omega
      exact partG_all this
set_option maxHeartbeats 4000000 in
set_option maxRecDepth 20000 in
theorem eqLease_ok (x : Le) (h : Sz TLe x) : FnC Tryz.prog 105 [aLe x, aLe x] [aLe0, aLe0] (.one (sB true)) := by
  refine FnC_of (fn := Tryz.f105) Tryz.func105 rfl rfl rfl ?_
  refine stp ?_ ?_ ?_ ?_ ?_ ?_ ?_ ?_ ?_ ?_ ?_ ?_ ?_ ?_ ?_ ?_ <;> (first | exact Mk.mk | exact trivial | (repeat intro hq))
set_option maxHeartbeats 4000000 in
set_option maxRecDepth 20000 in
theorem eqLeaseS_ok (xs : List Le) (h : Sz (.sl TLe) xs) : FnC Tryz.prog 52 [.c (.d (.sl TLe) xs), .c (.d (.sl TLe) xs)] [aX, aX] (.one (sB true)) := by
  have hl := sz_len h
  refine FnC_of (fn := Tryz.f52) Tryz.func52 rfl rfl rfl ?_
  refine stp ?_ ?_ ?_ ?_ ?_ ?_ ?_ ?_ ?_ ?_ ?_ ?_ ?_ ?_ ?_ ?_ <;> (first | exact Mk.mk | exact trivial | (repeat intro hq))
  refine W_loopT (fun i : Nat => St.tmpl 27 [(0, .one (.d (.sl TLe) xs)), (1, .one (.d (.sl TLe) xs)), (5, .one (.d (.i .i64) (i : Int)))] []) (fun i => i ≤ xs.length) (fun i => xs.length - i) 0 (Nat.zero_le _) ?_ ?_
  · exact Wk_tmpl [] ⟨rfl, rfl, rfl, trivial⟩ trivial rfl rfl
  · intro i hi
    have hwi : i < xs.length → Sz TLe (xs.getD (i : Int).toNat (dflt TLe)) := fun h1 => sz_at h h1 _
    have zD1 := fun {z0} zh => eqLease_ok z0 zh
    refine stp ?_ ?_ ?_ ?_ ?_ ?_ ?_ ?_ ?_ ?_ ?_ ?_ ?_ ?_ ?_ ?_ <;> (first | exact Mk.mk | exact trivial | (repeat intro hq))
    · exact hwi (by simpa using hq)
    · have hlt : i < xs.length := by simp_all
      exact ⟨i + 1, by omega, by omega, Wk_tmpl [] ⟨rfl, rfl, rfl, trivial⟩ trivial rfl rfl⟩
set_option maxHeartbeats 4000000 in
set_option maxRecDepth 20000 in
theorem szCommit_ok (x : Cm) (n : Int) (h0 : 0 ≤ n ∧ n ≤ 1000000000) (hw : Wf TCm x) : FnC Tryz.prog 81 [aCm x, aI n] [aCm0, aX] (.one (sI (szL n (szT TCm x)))) := by
  have hs : szT TCm x = 0 + (szT TEd x.2) := rfl
  by_cases c1 : (szT TEd x.2 : Nat) ≤ (n : Int)
  · have k1 := szEdit_ok x.2 (n) (by omega) (wfPr hw)
    rw [szL_yes c1] at k1
    rw [szL_yes (n := n) (m := szT TCm x) (by rw [hs]; omega), show (n - (szT TCm x : Nat) : Int) = n - (szT TEd x.2 : Nat) by rw [hs]; omega]
    refine FnC_of (fn := Tryz.f81) Tryz.func81 rfl rfl rfl ?_
    have zD1 := fun (zh : True) => k1
    refine stp ?_ ?_ ?_ ?_ ?_ ?_ ?_ ?_ ?_ ?_ ?_ ?_ ?_ ?_ ?_ ?_ <;> (first | exact Mk.mk | exact trivial | (repeat intro hq))
  · have k1 := szEdit_ok x.2 (n) (by omega) (wfPr hw)
    rw [szL_no c1] at k1
    rw [szL_no (n := n) (m := szT TCm x) (by rw [hs]; omega)]
    refine FnC_of (fn := Tryz.f81) Tryz.func81 rfl rfl rfl ?_
    have zD1 := fun (zh : True) => k1
    refine stp ?_ ?_ ?_ ?_ ?_ ?_ ?_ ?_ ?_ ?_ ?_ ?_ ?_ ?_ ?_ ?_ <;> (first | exact Mk.mk | exact trivial | (repeat intro hq))
set_option maxHeartbeats 4000000 in
set_option maxRecDepth 20000 in
theorem szCommitS_ok (xs : List Cm) (n : Int) (h0 : 0 ≤ n ∧ n ≤ 1000000000) (hw : Wf (.sl TCm) xs) : FnC Tryz.prog 40 [.c (.d (.sl TCm) xs), aI n] [aX, aX] (.one (sI (szL n (szT (.sl TCm) xs)))) := by
  have hl : xs.length ≤ 9223372036854775807 := Nat.le_trans hw.wf.1 (by decide)
  have hz : szT (.sl TCm) xs = xs.length + (xs.map (szT TCm)).sum := rfl
  generalize szT (.sl TCm) xs = Z at hz
  subst hz
  refine FnC_of (fn := Tryz.f40) Tryz.func40 rfl rfl rfl ?_
  refine stp ?_ ?_ ?_ ?_ ?_ ?_ ?_ ?_ ?_ ?_ ?_ ?_ ?_ ?_ ?_ ?_ <;> (first | exact Mk.mk | exact trivial | (repeat intro hq))
  · have hn : n - xs.length < 0 := by simpa using hq
    exact (if_pos (by omega)).symm
  · have hn : ¬ n - xs.length < 0 := by simpa using hq
    refine W_loopT (fun i : Nat => St.tmpl 27 [(0, .one (.d (.sl TCm) xs)), (1, .one (.d (.i .i64) (n - xs.length - ((xs.take i).map (szT TCm)).sum))), (5, .one (.d (.i .i64) (i : Int)))] []) (fun i => i ≤ xs.length ∧ 0 ≤ n - xs.length - (((xs.take i).map (szT TCm)).sum : Nat)) (fun i => xs.length - i) 0 ⟨Nat.zero_le _, by simp; omega⟩ ?_ ?_
    · refine Wk_tmpl [] ⟨rfl, ?_, rfl, trivial⟩ trivial rfl rfl
      refine congrArg (fun r => SV.one (C.d (Ty.i IntKind.i64) r)) ?_
      simp
    · rintro i ⟨hi, hm⟩
      have hwi : i < xs.length → Wf TCm (xs.getD (i : Int).toNat (dflt TCm)) := fun h => wf_at hw h _
      have hst := fun h : i < xs.length => sum_take (g := szT TCm) h (dflt TCm)
      have hle := sum_le (g := szT TCm) (xs := xs) (i := i + 1)
      have zD1 := fun {z0} {z1} (zh : _ ∧ _) => szCommit_ok z0 z1 zh.1 zh.2
      refine stp ?_ ?_ ?_ ?_ ?_ ?_ ?_ ?_ ?_ ?_ ?_ ?_ ?_ ?_ ?_ ?_ <;> (first | exact Mk.mk | exact trivial | (repeat intro hq))
      · exact hwi (by simpa using hq)
      · rename_i h1
        have hlt : i < xs.length := by simpa using h1
        have h2 : szL (n - xs.length - ((xs.take i).map (szT TCm)).sum) (szT TCm (xs.getD i (dflt TCm))) < 0 := by simpa using hq
        have h3 := hst hlt
        unfold szL at h2 ⊢
        split at h2
        · rw [if_pos (by omega)]
        · omega
      · rename_i h1
        have hlt : i < xs.length := by simpa using h1
        have h2 : ¬ szL (n - xs.length - ((xs.take i).map (szT TCm)).sum) (szT TCm (xs.getD i (dflt TCm))) < 0 := by simpa using hq
        have h3 := hst hlt
        obtain ⟨h4, h5⟩ := szL_pos (n := n - xs.length - ((xs.take i).map (szT TCm)).sum) (m := (szT TCm (xs.getD i (dflt TCm)))) (by omega)
        refine ⟨i + 1, by omega, ⟨by omega, by omega⟩, Wk_tmpl [] ⟨rfl, ?_, rfl, trivial⟩ trivial rfl rfl⟩
        refine congrArg (fun r => SV.one (C.d (Ty.i IntKind.i64) r)) ?_
        refine h4.trans ?_
        omega
      · have e : i = xs.length := by simp at hq; omega
        have e2 : ((xs.take i).map (szT TCm)).sum = (xs.map (szT TCm)).sum := by rw [e, List.take_length]
        rw [e2] at hm ⊢
        have e3 : (i : Int) = xs.length := by omega
        show (_ : Int) = _
        unfold szL
        split <;> rename_i h9 <;> omega
set_option maxHeartbeats 4000000 in
set_option maxRecDepth 20000 in
theorem toCommit_ok (x : Cm) (h : Sz TCm x) : FnC Tryz.prog 91 [aCm x] [aCm0] (.ag [sI x.1, sI x.2.1, sI x.2.2.1, oBy x.2.2.2]) := by
  have k1 := toEdit_ok x.2 (szPr h)
  refine FnC_of (fn := Tryz.f91) Tryz.func91 rfl rfl rfl ?_
  have zD1 := fun (zh : True) => k1
  refine stp ?_ ?_ ?_ ?_ ?_ ?_ ?_ ?_ ?_ ?_ ?_ ?_ ?_ ?_ ?_ ?_ <;> (first | exact Mk.mk | exact trivial | (repeat intro hq))
set_option maxHeartbeats 4000000 in
set_option maxRecDepth 20000 in
theorem toCommitS_ok (xs : List Cm) (h : Sz (.sl TCm) xs) : FnC Tryz.prog 44 [.c (.d (.sl TCm) xs)] [aX] (.one (.own 76 TCm true xs)) := by
  have hl := sz_len h
  refine FnC_of (fn := Tryz.f44) Tryz.func44 rfl rfl rfl ?_
  refine stp ?_ ?_ ?_ ?_ ?_ ?_ ?_ ?_ ?_ ?_ ?_ ?_ ?_ ?_ ?_ ?_ <;> (first | exact Mk.mk | exact trivial | (repeat intro hq))
  refine W_loopT (fun i : Nat => St.tmpl 23 [(0, .one (.d (.sl TCm) xs)), (3, .one (.rf 8000 .ar)), (4, .one (.d (.i .i64) (i : Int)))] [(8000, .rows 76 TCm true (partG (dflt TCm) xs i))]) (fun i => i ≤ xs.length) (fun i => xs.length - i) 0 (Nat.zero_le _) ?_ ?_
  · refine Wk_tmpl [] ⟨rfl, rfl, rfl, trivial⟩ ⟨?_, trivial⟩ rfl rfl
    exact congrArg (fun r => some (Ob.rows 76 TCm true r)) partG_0
  · intro i hi
    have hwi : i < xs.length → Sz TCm (xs.getD (i : Int).toNat (dflt TCm)) := fun h1 => sz_at h h1 _
    have hlen := partG_len (d := dflt TCm) hi
    have zD1 := fun {z0} zh => toCommit_ok z0 zh
    refine stp ?_ ?_ ?_ ?_ ?_ ?_ ?_ ?_ ?_ ?_ ?_ ?_ ?_ ?_ ?_ ?_ <;> (first | exact Mk.mk | exact trivial | (repeat intro hq))
    · exact hwi (by simpa using hq)
    · have hlt : i < xs.length := by simpa using hq
      exact ⟨i + 1, by omega, by omega, Wk_tmpl [] ⟨rfl, rfl, rfl, trivial⟩ ⟨congrArg (fun r => some (Ob.rows 76 TCm true r)) (partG_set (d := dflt TCm) hlt), trivial⟩ rfl rfl⟩
    · have : i = xs.length := by simp at hq; omega
      exact partG_all this
set_option maxHeartbeats 4000000 in
set_option maxRecDepth 20000 in
theorem eqCommit_ok (x : Cm) (h : Sz TCm x) : FnC Tryz.prog 103 [aCm x, aCm x] [aCm0, aCm0] (.one (sB true)) := by
  have k1 := eqEdit_ok x.2 (szPr h)
  refine FnC_of (fn := Tryz.f103) Tryz.func103 rfl rfl rfl ?_
  have zD1 := fun (zh : True) => k1
  refine stp ?_ ?_ ?_ ?_ ?_ ?_ ?_ ?_ ?_ ?_ ?_ ?_ ?_ ?_ ?_ ?_ <;> (first | exact Mk.mk | exact trivial | (repeat intro hq))
set_option maxHeartbeats 4000000 in
set_option maxRecDepth 20000 in
theorem eqCommitS_ok (xs : List Cm) (h : Sz (.sl TCm) xs) : FnC Tryz.prog 50 [.c (.d (.sl TCm) xs), .c (.d (.sl TCm) xs)] [aX, aX] (.one (sB true)) := by
  have hl := sz_len h
  refine FnC_of (fn := Tryz.f50) Tryz.func50 rfl rfl rfl ?_
  refine stp ?_ ?_ ?_ ?_ ?_ ?_ ?_ ?_ ?_ ?_ ?_ ?_ ?_ ?_ ?_ ?_ <;> (first | exact Mk.mk | exact trivial | (repeat intro hq))
  refine W_loopT (fun i : Nat => St.tmpl 27 [(0, .one (.d (.sl TCm) xs)), (1, .one (.d (.sl TCm) xs)), (5, .one (.d (.i .i64) (i : Int)))] []) (fun i => i ≤ xs.length) (fun i => xs.length - i) 0 (Nat.zero_le _) ?_ ?_
  · exact Wk_tmpl [] ⟨rfl, rfl, rfl, trivial⟩ trivial rfl rfl
  · intro i hi
    have hwi : i < xs.length → Sz TCm (xs.getD (i : Int).toNat (dflt TCm)) := fun h1 => sz_at h h1 _
    have zD1 := fun {z0} zh => eqCommit_ok z0 zh
    refine stp ?_ ?_ ?_ ?_ ?_ ?_ ?_ ?_ ?_ ?_ ?_ ?_ ?_ ?_ ?_ ?_ <;> (first | exact Mk.mk | exact trivial | (repeat intro hq))
    · exact hwi (by simpa using hq)
    · have hlt : i < xs.length := by simp_all
      exact ⟨i + 1, by omega, by omega, Wk_tmpl [] ⟨rfl, rfl, rfl, trivial⟩ trivial rfl rfl⟩
set_option maxHeartbeats 4000000 in
set_option maxRecDepth 20000 in
theorem szStack_ok (x : Sk) (n : Int) (h0 : 0 ≤ n ∧ n ≤ 1000000000) (hw : Wf TSk x) : FnC Tryz.prog 127 [aSk x, aI n] [aSk0, aX] (.one (sI (szL n (szT TSk x)))) := by
  have hs : szT TSk x = szT (.sl TEd) x.1 + (szT (.sl TEd) x.2) := rfl
  by_cases c1 : (szT (.sl TEd) x.1 : Nat) ≤ (n : Int)
  · have k1 := szEditS_ok x.1 (n) (by omega) (wfPl hw)
    rw [szL_yes c1] at k1
    by_cases c2 : (szT (.sl TEd) x.2 : Nat) ≤ (n - (szT (.sl TEd) x.1 : Nat) : Int)
    · have k2 := szEditS_ok x.2 (n - (szT (.sl TEd) x.1 : Nat)) (by omega) (wfPr hw)
      rw [szL_yes c2] at k2
      rw [szL_yes (n := n) (m := szT TSk x) (by rw [hs]; omega), show (n - (szT TSk x : Nat) : Int) = n - (szT (.sl TEd) x.1 : Nat) - (szT (.sl TEd) x.2 : Nat) by rw [hs]; omega]
      refine FnC_of (fn := Tryz.f127) Tryz.func127 rfl rfl rfl ?_
      have zD1 := fun (zh : True) => k1
      have zD2 := fun (zh : True) => k2
      refine stp ?_ ?_ ?_ ?_ ?_ ?_ ?_ ?_ ?_ ?_ ?_ ?_ ?_ ?_ ?_ ?_ <;> (first | exact Mk.mk | exact trivial | (repeat intro hq))
    · have k2 := szEditS_ok x.2 (n - (szT (.sl TEd) x.1 : Nat)) (by omega) (wfPr hw)
      rw [szL_no c2] at k2
      rw [szL_no (n := n) (m := szT TSk x) (by rw [hs]; omega)]
      refine FnC_of (fn := Tryz.f127) Tryz.func127 rfl rfl rfl ?_
      have zD1 := fun (zh : True) => k1
      have zD2 := fun (zh : True) => k2
      refine stp ?_ ?_ ?_ ?_ ?_ ?_ ?_ ?_ ?_ ?_ ?_ ?_ ?_ ?_ ?_ ?_ <;> (first | exact Mk.mk | exact trivial | (repeat intro hq))
  · have k1 := szEditS_ok x.1 (n) (by omega) (wfPl hw)
    rw [szL_no c1] at k1
    rw [szL_no (n := n) (m := szT TSk x) (by rw [hs]; omega)]
    refine FnC_of (fn := Tryz.f127) Tryz.func127 rfl rfl rfl ?_
    have zD1 := fun (zh : True) => k1
    refine stp ?_ ?_ ?_ ?_ ?_ ?_ ?_ ?_ ?_ ?_ ?_ ?_ ?_ ?_ ?_ ?_ <;> (first | exact Mk.mk | exact trivial | (repeat intro hq))
set_option maxHeartbeats 4000000 in
set_option maxRecDepth 20000 in
theorem toStack_ok (x : Sk) (h : Sz TSk x) : FnC Tryz.prog 135 [aSk x] [aSk0] (.ag [.own 40 TEd true x.1, .own 40 TEd true x.2]) := by
  have k1 := toEditS_ok x.1 (szPl h)
  have k2 := toEditS_ok x.2 (szPr h)
  refine FnC_of (fn := Tryz.f135) Tryz.func135 rfl rfl rfl ?_
  have zD1 := fun (zh : True) => k1
  have zD2 := fun (zh : True) => k2
  refine stp ?_ ?_ ?_ ?_ ?_ ?_ ?_ ?_ ?_ ?_ ?_ ?_ ?_ ?_ ?_ ?_ <;> (first | exact Mk.mk | exact trivial | (repeat intro hq))
set_option maxHeartbeats 4000000 in
set_option maxRecDepth 20000 in
theorem eqStack_ok (x : Sk) (h : Sz TSk x) : FnC Tryz.prog 148 [aSk x, aSk x] [aSk0, aSk0] (.one (sB true)) := by
  have k1 := eqEditS_ok x.1 (szPl h)
  have k2 := eqEditS_ok x.2 (szPr h)
  refine FnC_of (fn := Tryz.f148) Tryz.func148 rfl rfl rfl ?_
  have zD1 := fun (zh : True) => k1
  have zD2 := fun (zh : True) => k2
  refine stp ?_ ?_ ?_ ?_ ?_ ?_ ?_ ?_ ?_ ?_ ?_ ?_ ?_ ?_ ?_ ?_ <;> (first | exact Mk.mk | exact trivial | (repeat intro hq))
set_option maxHeartbeats 4000000 in
set_option maxRecDepth 20000 in
theorem szMember_ok (x : Mb) (n : Int) (h0 : 0 ≤ n ∧ n ≤ 1000000000) (hw : Wf TMb x) : FnC Tryz.prog 82 [aMb x, aI n] [aMb0, aX] (.one (sI (szL n (szT TMb x)))) := by
  have hs : szT TMb x = 0 + (0 + (szT TSk x.2.2)) := rfl
  by_cases c1 : (szT TSk x.2.2 : Nat) ≤ (n : Int)
  · have k1 := szStack_ok x.2.2 (n) (by omega) (wfPr (wfPr hw))
    rw [szL_yes c1] at k1
    rw [szL_yes (n := n) (m := szT TMb x) (by rw [hs]; omega), show (n - (szT TMb x : Nat) : Int) = n - (szT TSk x.2.2 : Nat) by rw [hs]; omega]
    refine FnC_of (fn := Tryz.f82) Tryz.func82 rfl rfl rfl ?_
    have zD1 := fun (zh : True) => k1
    refine stp ?_ ?_ ?_ ?_ ?_ ?_ ?_ ?_ ?_ ?_ ?_ ?_ ?_ ?_ ?_ ?_ <;> (first | exact Mk.mk | exact trivial | (repeat intro hq))
  · have k1 := szStack_ok x.2.2 (n) (by omega) (wfPr (wfPr hw))
    rw [szL_no c1] at k1
    rw [szL_no (n := n) (m := szT TMb x) (by rw [hs]; omega)]
    refine FnC_of (fn := Tryz.f82) Tryz.func82 rfl rfl rfl ?_
    have zD1 := fun (zh : True) => k1
    refine stp ?_ ?_ ?_ ?_ ?_ ?_ ?_ ?_ ?_ ?_ ?_ ?_ ?_ ?_ ?_ ?_ <;> (first | exact Mk.mk | exact trivial | (repeat intro hq))
set_option maxHeartbeats 4000000 in
set_option maxRecDepth 20000 in
theorem szMemberS_ok (xs : List Mb) (n : Int) (h0 : 0 ≤ n ∧ n ≤ 1000000000) (hw : Wf (.sl TMb) xs) : FnC Tryz.prog 41 [.c (.d (.sl TMb) xs), aI n] [aX, aX] (.one (sI (szL n (szT (.sl TMb) xs)))) := by
  have hl : xs.length ≤ 9223372036854775807 := Nat.le_trans hw.wf.1 (by decide)
  have hz : szT (.sl TMb) xs = xs.length + (xs.map (szT TMb)).sum := rfl
  generalize szT (.sl TMb) xs = Z at hz
  subst hz
  refine FnC_of (fn := Tryz.f41) Tryz.func41 rfl rfl rfl ?_
  refine stp ?_ ?_ ?_ ?_ ?_ ?_ ?_ ?_ ?_ ?_ ?_ ?_ ?_ ?_ ?_ ?_ <;> (first | exact Mk.mk | exact trivial | (repeat intro hq))
  · have hn : n - xs.length < 0 := by simpa using hq
    exact (if_pos (by omega)).symm
  · have hn : ¬ n - xs.length < 0 := by simpa using hq
    refine W_loopT (fun i : Nat => St.tmpl 27 [(0, .one (.d (.sl TMb) xs)), (1, .one (.d (.i .i64) (n - xs.length - ((xs.take i).map (szT TMb)).sum))), (5, .one (.d (.i .i64) (i : Int)))] []) (fun i => i ≤ xs.length ∧ 0 ≤ n - xs.length - (((xs.take i).map (szT TMb)).sum : Nat)) (fun i => xs.length - i) 0 ⟨Nat.zero_le _, by simp; omega⟩ ?_ ?_
    · refine Wk_tmpl [] ⟨rfl, ?_, rfl, trivial⟩ trivial rfl rfl
      refine congrArg (fun r => SV.one (C.d (Ty.i IntKind.i64) r)) ?_
      simp
    · rintro i ⟨hi, hm⟩
      have hwi : i < xs.length → Wf TMb (xs.getD (i : Int).toNat (dflt TMb)) := fun h => wf_at hw h _
      have hst := fun h : i < xs.length => sum_take (g := szT TMb) h (dflt TMb)
      have hle := sum_le (g := szT TMb) (xs := xs) (i := i + 1)
      have zD1 := fun {z0} {z1} (zh : _ ∧ _) => szMember_ok z0 z1 zh.1 zh.2
      refine stp ?_ ?_ ?_ ?_ ?_ ?_ ?_ ?_ ?_ ?_ ?_ ?_ ?_ ?_ ?_ ?_ <;> (first | exact Mk.mk | exact trivial | (repeat intro hq))
      · exact hwi (by simpa using hq)
      · rename_i h1
        have hlt : i < xs.length := by simpa using h1
        have h2 : szL (n - xs.length - ((xs.take i).map (szT TMb)).sum) (szT TMb (xs.getD i (dflt TMb))) < 0 := by simpa using hq
        have h3 := hst hlt
        unfold szL at h2 ⊢
        split at h2
        · rw [if_pos (by omega)]
        · omega
      · rename_i h1
        have hlt : i < xs.length := by simpa using h1
        have h2 : ¬ szL (n - xs.length - ((xs.take i).map (szT TMb)).sum) (szT TMb (xs.getD i (dflt TMb))) < 0 := by simpa using hq
        have h3 := hst hlt
        obtain ⟨h4, h5⟩ := szL_pos (n := n - xs.length - ((xs.take i).map (szT TMb)).sum) (m := (szT TMb (xs.getD i (dflt TMb)))) (by omega)
        refine ⟨i + 1, by omega, ⟨by omega, by omega⟩, Wk_tmpl [] ⟨rfl, ?_, rfl, trivial⟩ trivial rfl rfl⟩
        refine congrArg (fun r => SV.one (C.d (Ty.i IntKind.i64) r)) ?_
        refine h4.trans ?_
        omega
      · have e : i = xs.length := by simp at hq; omega
        have e2 : ((xs.take i).map (szT TMb)).sum = (xs.map (szT TMb)).sum := by rw [e, List.take_length]
        rw [e2] at hm ⊢
        have e3 : (i : Int) = xs.length := by omega
        show (_ : Int) = _
        unfold szL
        split <;> rename_i h9 <;> omega
set_option maxHeartbeats 4000000 in
set_option maxRecDepth 20000 in
theorem toMember_ok (x : Mb) (h : Sz TMb x) : FnC Tryz.prog 92 [aMb x] [aMb0] (.ag [sI x.1, sI x.2.1.1, sI x.2.1.2, .own 40 TEd true x.2.2.1, .own 40 TEd true x.2.2.2]) := by
  have k1 := toSel_ok x.2.1 (szPl (szPr h))
  have k2 := toStack_ok x.2.2 (szPr (szPr h))
  refine FnC_of (fn := Tryz.f92) Tryz.func92 rfl rfl rfl ?_
  have zD1 := fun (zh : True) => k1
  have zD2 := fun (zh : True) => k2
  refine stp ?_ ?_ ?_ ?_ ?_ ?_ ?_ ?_ ?_ ?_ ?_ ?_ ?_ ?_ ?_ ?_ <;> (first | exact Mk.mk | exact trivial | (repeat intro hq))
set_option maxHeartbeats 4000000 in
set_option maxRecDepth 20000 in
theorem toMemberS_ok (xs : List Mb) (h : Sz (.sl TMb) xs) : FnC Tryz.prog 45 [.c (.d (.sl TMb) xs)] [aX] (.one (.own 84 TMb true xs)) := by
  have hl := sz_len h
  refine FnC_of (fn := Tryz.f45) Tryz.func45 rfl rfl rfl ?_
  refine stp ?_ ?_ ?_ ?_ ?_ ?_ ?_ ?_ ?_ ?_ ?_ ?_ ?_ ?_ ?_ ?_ <;> (first | exact Mk.mk | exact trivial | (repeat intro hq))
  refine W_loopT (fun i : Nat => St.tmpl 23 [(0, .one (.d (.sl TMb) xs)), (3, .one (.rf 8000 .ar)), (4, .one (.d (.i .i64) (i : Int)))] [(8000, .rows 84 TMb true (partG (dflt TMb) xs i))]) (fun i => i ≤ xs.length) (fun i => xs.length - i) 0 (Nat.zero_le _) ?_ ?_
  · refine Wk_tmpl [] ⟨rfl, rfl, rfl, trivial⟩ ⟨?_, trivial⟩ rfl rfl
    exact congrArg (fun r => some (Ob.rows 84 TMb true r)) partG_0
  · intro i hi
    have hwi : i < xs.length → Sz TMb (xs.getD (i : Int).toNat (dflt TMb)) := fun h1 => sz_at h h1 _
    have hlen := partG_len (d := dflt TMb) hi
    have zD1 := fun {z0} zh => toMember_ok z0 zh
    refine stp ?_ ?_ ?_ ?_ ?_ ?_ ?_ ?_ ?_ ?_ ?_ ?_ ?_ ?_ ?_ ?_ <;> (first | exact Mk.mk | exact trivial | (repeat intro hq))
    · exact hwi (by simpa using hq)
    · have hlt : i < xs.length := by simpa using hq
      exact ⟨i + 1, by omega, by omega, Wk_tmpl [] ⟨rfl, rfl, rfl, trivial⟩ ⟨congrArg (fun r => some (Ob.rows 84 TMb true r)) (partG_set (d := dflt TMb) hlt), trivial⟩ rfl rfl⟩
    · have : i = xs.length := by simp at hq; omega
      exact partG_all this
set_option maxHeartbeats 4000000 in
set_option maxRecDepth 20000 in
theorem eqMember_ok (x : Mb) (h : Sz TMb x) : FnC Tryz.prog 104 [aMb x, aMb x] [aMb0, aMb0] (.one (sB true)) := by
  have k1 := eqSel_ok x.2.1 (szPl (szPr h))
  have k2 := eqStack_ok x.2.2 (szPr (szPr h))
  refine FnC_of (fn := Tryz.f104) Tryz.func104 rfl rfl rfl ?_
  have zD1 := fun (zh : True) => k1
  have zD2 := fun (zh : True) => k2
  refine stp ?_ ?_ ?_ ?_ ?_ ?_ ?_ ?_ ?_ ?_ ?_ ?_ ?_ ?_ ?_ ?_ <;> (first | exact Mk.mk | exact trivial | (repeat intro hq))
set_option maxHeartbeats 4000000 in
set_option maxRecDepth 20000 in
theorem eqMemberS_ok (xs : List Mb) (h : Sz (.sl TMb) xs) : FnC Tryz.prog 51 [.c (.d (.sl TMb) xs), .c (.d (.sl TMb) xs)] [aX, aX] (.one (sB true)) := by
  have hl := sz_len h
  refine FnC_of (fn := Tryz.f51) Tryz.func51 rfl rfl rfl ?_
  refine stp ?_ ?_ ?_ ?_ ?_ ?_ ?_ ?_ ?_ ?_ ?_ ?_ ?_ ?_ ?_ ?_ <;> (first | exact Mk.mk | exact trivial | (repeat intro hq))
  refine W_loopT (fun i : Nat => St.tmpl 27 [(0, .one (.d (.sl TMb) xs)), (1, .one (.d (.sl TMb) xs)), (5, .one (.d (.i .i64) (i : Int)))] []) (fun i => i ≤ xs.length) (fun i => xs.length - i) 0 (Nat.zero_le _) ?_ ?_
  · exact Wk_tmpl [] ⟨rfl, rfl, rfl, trivial⟩ trivial rfl rfl
  · intro i hi
    have hwi : i < xs.length → Sz TMb (xs.getD (i : Int).toNat (dflt TMb)) := fun h1 => sz_at h h1 _
    have zD1 := fun {z0} zh => eqMember_ok z0 zh
    refine stp ?_ ?_ ?_ ?_ ?_ ?_ ?_ ?_ ?_ ?_ ?_ ?_ ?_ ?_ ?_ ?_ <;> (first | exact Mk.mk | exact trivial | (repeat intro hq))
    · exact hwi (by simpa using hq)
    · have hlt : i < xs.length := by simp_all
      exact ⟨i + 1, by omega, by omega, Wk_tmpl [] ⟨rfl, rfl, rfl, trivial⟩ trivial rfl rfl⟩
set_option maxHeartbeats 4000000 in
set_option maxRecDepth 20000 in
theorem szDoc_ok (x : Dc) (n : Int) (h0 : 0 ≤ n ∧ n ≤ 1000000000) (hw : Wf TDc x) : FnC Tryz.prog 10 [aDc x, aI n] [aDc0, aX] (.one (sI (szL n (szT TDc x)))) := by
  have hs : szT TDc x = szT (.sl .u8) x.1 + (szT (.sl .u8) x.2.1 + (szT (.sl TCm) x.2.2.1 + (0 + (szT (.sl TMb) x.2.2.2.2.1 + (szT (.sl TLe) x.2.2.2.2.2))))) := rfl
  by_cases c1 : (szT (.sl .u8) x.1 : Nat) ≤ (n : Int)
  · have k1 := szby_ok x.1 (n) (by omega) (wfPl hw)
    rw [szL_yes c1] at k1
    by_cases c2 : (szT (.sl .u8) x.2.1 : Nat) ≤ (n - (szT (.sl .u8) x.1 : Nat) : Int)
    · have k2 := szby_ok x.2.1 (n - (szT (.sl .u8) x.1 : Nat)) (by omega) (wfPl (wfPr hw))
      rw [szL_yes c2] at k2
      by_cases c3 : (szT (.sl TCm) x.2.2.1 : Nat) ≤ (n - (szT (.sl .u8) x.1 : Nat) - (szT (.sl .u8) x.2.1 : Nat) : Int)
      · have k3 := szCommitS_ok x.2.2.1 (n - (szT (.sl .u8) x.1 : Nat) - (szT (.sl .u8) x.2.1 : Nat)) (by omega) (wfPl (wfPr (wfPr hw)))
        rw [szL_yes c3] at k3
        by_cases c4 : (szT (.sl TMb) x.2.2.2.2.1 : Nat) ≤ (n - (szT (.sl .u8) x.1 : Nat) - (szT (.sl .u8) x.2.1 : Nat) - (szT (.sl TCm) x.2.2.1 : Nat) : Int)
        · have k4 := szMemberS_ok x.2.2.2.2.1 (n - (szT (.sl .u8) x.1 : Nat) - (szT (.sl .u8) x.2.1 : Nat) - (szT (.sl TCm) x.2.2.1 : Nat)) (by omega) (wfPl (wfPr (wfPr (wfPr (wfPr hw)))))
          rw [szL_yes c4] at k4
          by_cases c5 : (szT (.sl TLe) x.2.2.2.2.2 : Nat) ≤ (n - (szT (.sl .u8) x.1 : Nat) - (szT (.sl .u8) x.2.1 : Nat) - (szT (.sl TCm) x.2.2.1 : Nat) - (szT (.sl TMb) x.2.2.2.2.1 : Nat) : Int)
          · have k5 := szLeaseS_ok x.2.2.2.2.2 (n - (szT (.sl .u8) x.1 : Nat) - (szT (.sl .u8) x.2.1 : Nat) - (szT (.sl TCm) x.2.2.1 : Nat) - (szT (.sl TMb) x.2.2.2.2.1 : Nat)) (by omega) (wfPr (wfPr (wfPr (wfPr (wfPr hw)))))
            rw [szL_yes c5] at k5
            rw [szL_yes (n := n) (m := szT TDc x) (by rw [hs]; omega), show (n - (szT TDc x : Nat) : Int) = n - (szT (.sl .u8) x.1 : Nat) - (szT (.sl .u8) x.2.1 : Nat) - (szT (.sl TCm) x.2.2.1 : Nat) - (szT (.sl TMb) x.2.2.2.2.1 : Nat) - (szT (.sl TLe) x.2.2.2.2.2 : Nat) by rw [hs]; omega]
            refine FnC_of (fn := Tryz.f10) Tryz.func10 rfl rfl rfl ?_
            have zD1 := fun (zh : True) => k1
            have zD2 := fun (zh : True) => k2
            have zD3 := fun (zh : True) => k3
            have zD4 := fun (zh : True) => k4
            have zD5 := fun (zh : True) => k5
            refine stp ?_ ?_ ?_ ?_ ?_ ?_ ?_ ?_ ?_ ?_ ?_ ?_ ?_ ?_ ?_ ?_ <;> (first | exact Mk.mk | exact trivial | (repeat intro hq))
          · have k5 := szLeaseS_ok x.2.2.2.2.2 (n - (szT (.sl .u8) x.1 : Nat) - (szT (.sl .u8) x.2.1 : Nat) - (szT (.sl TCm) x.2.2.1 : Nat) - (szT (.sl TMb) x.2.2.2.2.1 : Nat)) (by omega) (wfPr (wfPr (wfPr (wfPr (wfPr hw)))))
            rw [szL_no c5] at k5
            rw [szL_no (n := n) (m := szT TDc x) (by rw [hs]; omega)]
            refine FnC_of (fn := Tryz.f10) Tryz.func10 rfl rfl rfl ?_
            have zD1 := fun (zh : True) => k1
            have zD2 := fun (zh : True) => k2
            have zD3 := fun (zh : True) => k3
            have zD4 := fun (zh : True) => k4
            have zD5 := fun (zh : True) => k5
            refine stp ?_ ?_ ?_ ?_ ?_ ?_ ?_ ?_ ?_ ?_ ?_ ?_ ?_ ?_ ?_ ?_ <;> (first | exact Mk.mk | exact trivial | (repeat intro hq))
        · have k4 := szMemberS_ok x.2.2.2.2.1 (n - (szT (.sl .u8) x.1 : Nat) - (szT (.sl .u8) x.2.1 : Nat) - (szT (.sl TCm) x.2.2.1 : Nat)) (by omega) (wfPl (wfPr (wfPr (wfPr (wfPr hw)))))
          rw [szL_no c4] at k4
          rw [szL_no (n := n) (m := szT TDc x) (by rw [hs]; omega)]
          refine FnC_of (fn := Tryz.f10) Tryz.func10 rfl rfl rfl ?_
          have zD1 := fun (zh : True) => k1
          have zD2 := fun (zh : True) => k2
          have zD3 := fun (zh : True) => k3
          have zD4 := fun (zh : True) => k4
          refine stp ?_ ?_ ?_ ?_ ?_ ?_ ?_ ?_ ?_ ?_ ?_ ?_ ?_ ?_ ?_ ?_ <;> (first | exact Mk.mk | exact trivial | (repeat intro hq))
      · have k3 := szCommitS_ok x.2.2.1 (n - (szT (.sl .u8) x.1 : Nat) - (szT (.sl .u8) x.2.1 : Nat)) (by omega) (wfPl (wfPr (wfPr hw)))
        rw [szL_no c3] at k3
        rw [szL_no (n := n) (m := szT TDc x) (by rw [hs]; omega)]
        refine FnC_of (fn := Tryz.f10) Tryz.func10 rfl rfl rfl ?_
        have zD1 := fun (zh : True) => k1
        have zD2 := fun (zh : True) => k2
        have zD3 := fun (zh : True) => k3
        refine stp ?_ ?_ ?_ ?_ ?_ ?_ ?_ ?_ ?_ ?_ ?_ ?_ ?_ ?_ ?_ ?_ <;> (first | exact Mk.mk | exact trivial | (repeat intro hq))
    · have k2 := szby_ok x.2.1 (n - (szT (.sl .u8) x.1 : Nat)) (by omega) (wfPl (wfPr hw))
      rw [szL_no c2] at k2
      rw [szL_no (n := n) (m := szT TDc x) (by rw [hs]; omega)]
      refine FnC_of (fn := Tryz.f10) Tryz.func10 rfl rfl rfl ?_
      have zD1 := fun (zh : True) => k1
      have zD2 := fun (zh : True) => k2
      refine stp ?_ ?_ ?_ ?_ ?_ ?_ ?_ ?_ ?_ ?_ ?_ ?_ ?_ ?_ ?_ ?_ <;> (first | exact Mk.mk | exact trivial | (repeat intro hq))
  · have k1 := szby_ok x.1 (n) (by omega) (wfPl hw)
    rw [szL_no c1] at k1
    rw [szL_no (n := n) (m := szT TDc x) (by rw [hs]; omega)]
    refine FnC_of (fn := Tryz.f10) Tryz.func10 rfl rfl rfl ?_
    have zD1 := fun (zh : True) => k1
    refine stp ?_ ?_ ?_ ?_ ?_ ?_ ?_ ?_ ?_ ?_ ?_ ?_ ?_ ?_ ?_ ?_ <;> (first | exact Mk.mk | exact trivial | (repeat intro hq))
set_option maxHeartbeats 4000000 in
set_option maxRecDepth 20000 in
theorem toDoc_ok (x : Dc) (h : Sz TDc x) : FnC Tryz.prog 12 [aDc x] [aDc0] (.ag [oBy x.1, oBy x.2.1, .own 76 TCm true x.2.2.1, sI x.2.2.2.1, .own 84 TMb true x.2.2.2.2.1, .own 87 TLe false x.2.2.2.2.2]) := by
  have k1 := toby_ok x.1 (szPl h)
  have k2 := toby_ok x.2.1 (szPl (szPr h))
  have k3 := toCommitS_ok x.2.2.1 (szPl (szPr (szPr h)))
  have k4 := toMemberS_ok x.2.2.2.2.1 (szPl (szPr (szPr (szPr (szPr h)))))
  have k5 := toLeaseS_ok x.2.2.2.2.2 (szPr (szPr (szPr (szPr (szPr h)))))
  refine FnC_of (fn := Tryz.f12) Tryz.func12 rfl rfl rfl ?_
  have zD1 := fun (zh : True) => k1
  have zD2 := fun (zh : True) => k2
  have zD3 := fun (zh : True) => k3
  have zD4 := fun (zh : True) => k4
  have zD5 := fun (zh : True) => k5
  refine stp ?_ ?_ ?_ ?_ ?_ ?_ ?_ ?_ ?_ ?_ ?_ ?_ ?_ ?_ ?_ ?_ <;> (first | exact Mk.mk | exact trivial | (repeat intro hq))
set_option maxHeartbeats 4000000 in
set_option maxRecDepth 20000 in
theorem eqDoc_ok (x : Dc) (h : Sz TDc x) : FnC Tryz.prog 14 [aDc x, aDc x] [aDc0, aDc0] (.one (sB true)) := by
  have k1 := eqby_ok x.1 (szPl h)
  have k2 := eqby_ok x.2.1 (szPl (szPr h))
  have k3 := eqCommitS_ok x.2.2.1 (szPl (szPr (szPr h)))
  have k4 := eqMemberS_ok x.2.2.2.2.1 (szPl (szPr (szPr (szPr (szPr h)))))
  have k5 := eqLeaseS_ok x.2.2.2.2.2 (szPr (szPr (szPr (szPr (szPr h)))))
  refine FnC_of (fn := Tryz.f14) Tryz.func14 rfl rfl rfl ?_
  have zD1 := fun (zh : True) => k1
  have zD2 := fun (zh : True) => k2
  have zD3 := fun (zh : True) => k3
  have zD4 := fun (zh : True) => k4
  have zD5 := fun (zh : True) => k5
  refine stp ?_ ?_ ?_ ?_ ?_ ?_ ?_ ?_ ?_ ?_ ?_ ?_ ?_ ?_ ?_ ?_ <;> (first | exact Mk.mk | exact trivial | (repeat intro hq))
end Go.LX
