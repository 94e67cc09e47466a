/- A part of the proof of the statement in the row text. -/
import Derived.Test.YtojaiockbpcilaaDoorLzG5
import Derived.Test.YtojaiockbpcilaaDoorLxDat
set_option linter.unusedVariables false
set_option linter.unusedSimpArgs false
namespace Go.LX
open Go.Proofs
attribute [local irreducible] W WO OpW RW EndQ
/-- A span after an edit. -/
def spI (e : Ed) (i j : Int) : Int × Int := if posM e j false < posM e i true ∨ i = j then (posM e i true, posM e i true) else (posM e i true, posM e j false)
theorem posM_in {e : Ed} {p : Int} (h : smE e = true) (hp : 0 ≤ p ∧ p ≤ 800) (r : Bool) : 0 ≤ posM e p r ∧ posM e p r ≤ 1200 := by
  simp only [smE, Bool.and_eq_true, decide_eq_true_eq] at h
  unfold posM
  repeat' split
  all_goals omega
theorem spI_in {e : Ed} {i j : Int} (h : smE e = true) (hi : 0 ≤ i ∧ i ≤ 800) (hj : 0 ≤ j ∧ j ≤ 800) : 0 ≤ (spI e i j).1 ∧ (spI e i j).1 ≤ (spI e i j).2 ∧ (spI e i j).2 ≤ 1200 := by
  have h1 := posM_in h hi true
  have h2 := posM_in h hj false
  unfold spI
  split
  · exact ⟨h1.1, Int.le_refl _, h1.2⟩
  · simp only; omega
set_option maxHeartbeats 4000000 in
set_option maxRecDepth 20000 in
theorem span_ok (e : Ed) (i j : Int) (h : smE e = true) (hi : 0 ≤ i ∧ i ≤ 800) (hj : 0 ≤ j ∧ j ≤ 800) : FnC Tryd.prog 111 [aEd e, aI i, aI j] [aEd0, aX, aX] (.tu [(false, [sI (spI e i j).1]), (false, [sI (spI e i j).2])]) := by
  have h1 := pos_ok e i true h hi
  have h2 := pos_ok e j false h hj
  refine FnC_of (fn := Tryd.f111) Tryd.func111 rfl rfl rfl ?_
  have zD1 := fun (zh : True) => h1
  have zD2 := fun (zh : True) => h2
  refine stp ?_ ?_ ?_ ?_ ?_ ?_ ?_ ?_ ?_ ?_ <;> (first | exact Mk.mk | exact trivial | (repeat intro hq))
  all_goals clear h1 h2
  all_goals unfold spI
  all_goals first
    | (simp_all; done)
    | (have h8 : ¬ (posM e j false < posM e i true ∨ i = j) := by first | (simp_all; done) | (simp_all; omega)
       rw [if_neg h8])
/-- An edit after another one. -/
def mvE (e b : Ed) : Ed := ((spI b e.1 (e.1 + e.2.1)).1, (spI b e.1 (e.1 + e.2.1)).2 - (spI b e.1 (e.1 + e.2.1)).1, e.2.2)
theorem smE_ok {e : Ed} (h : smE e = true) : (0 ≤ e.1 ∧ e.1 ≤ 400) ∧ (0 ≤ e.2.1 ∧ e.2.1 ≤ 400) ∧ e.2.2.length ≤ 400 := by
  simp only [smE, Bool.and_eq_true, decide_eq_true_eq] at h; omega
set_option maxHeartbeats 4000000 in
set_option maxRecDepth 20000 in
theorem moved_ok (e b : Ed) (he : smE e = true) (hb : smE b = true) : FnC Tryd.prog 97 [aEd e, aEd b] [aEd0, aEd0] (.ag [sI (mvE e b).1, sI (mvE e b).2.1, sBy (mvE e b).2.2]) := by
  obtain ⟨e1, e2, e3⟩ := smE_ok he
  have h1 := span_ok b e.1 (e.1 + e.2.1) hb ⟨e1.1, by omega⟩ ⟨by omega, by omega⟩
  have h2 := spI_in hb (i := e.1) (j := e.1 + e.2.1) ⟨e1.1, by omega⟩ ⟨by omega, by omega⟩
  unfold mvE
  generalize spI b e.1 (e.1 + e.2.1) = q at *
  refine FnC_of (fn := Tryd.f97) Tryd.func97 rfl rfl rfl ?_
  have zD1 := fun (zh : True) => h1
  refine stp ?_ ?_ ?_ ?_ ?_ ?_ ?_ ?_ ?_ ?_ <;> (first | exact Mk.mk | exact trivial | (repeat intro hq))
def mvs : Ed → List Ed → Option Ed
  | e, [] => some e
  | e, b :: bs => if (smE e && smE b) = true then mvs (mvE e b) bs else none
def mvR (e : Ed) (xs : List Ed) : Option Ed := if xs.length = 0 ∧ smE e = false then none else mvs e xs
theorem mvs_drop {e : Ed} {xs : List Ed} {i : Nat} (h : i < xs.length) : mvs e (xs.drop i) = if (smE e && smE (xs.getD i (dflt TEd))) = true then mvs (mvE e (xs.getD i (dflt TEd))) (xs.drop (i + 1)) else none := by
  have e1 : xs.drop i = xs.getD i (dflt TEd) :: xs.drop (i + 1) := by
    rw [List.drop_eq_getElem_cons h, List.getD_eq_getElem?_getD, List.getElem?_eq_getElem h]; rfl
  rw [e1, mvs]
set_option maxHeartbeats 4000000 in
set_option maxRecDepth 20000 in
theorem imoves_ok (e : Ed) (xs : List Ed) (he : e.2.2.length ≤ 16777216) (hl : xs.length ≤ 16777216) (hw : ∀ e ∈ xs, e.2.2.length ≤ 16777216) : FnC Tryd.prog 70 [aEd e, aEs xs] [aEd0, aX] (.tu [(true, [sI ((mvR e xs).getD (0, 0, [])).1, sI ((mvR e xs).getD (0, 0, [])).2.1, oBy ((mvR e xs).getD (0, 0, [])).2.2]), (false, [sB (mvR e xs).isSome])]) := by
  obtain ⟨R, hR⟩ : ∃ R, mvR e xs = R := ⟨_, rfl⟩
  rw [hR]
  refine FnC_of (fn := Tryd.f70) Tryd.func70 rfl rfl rfl ?_
  refine stp ?_ ?_ ?_ ?_ ?_ ?_ ?_ ?_ ?_ ?_ <;> (first | exact Mk.mk | exact trivial | (repeat intro hq))
  refine W_loopT (fun q : Nat × Ed => St.tmpl 38 [(1, .one (.d (.sl TEd) xs)), (2, .one (.rf 3000 (.pb 0))), (4, .one (.rf 5000 (.pb 0))), (8, .one (.d (.sl TEd) xs)), (9, .one (.d (.i .i64) (xs.length : Nat))), (10, .one (.d (.i .i64) (q.1 : Int)))] [(3000, .cells [.d (.i .i64) q.2.1, .d (.i .i64) q.2.2.1, .d (.sl .u8) q.2.2.2]), (5000, .cells [.d (.i .i64) 0, .d (.i .i64) 0, .nl])]) (fun q => q.1 ≤ xs.length ∧ q.2.2.2.length ≤ 16777216 ∧ (if xs.length = 0 ∧ smE q.2 = false then none else mvs q.2 (xs.drop q.1)) = R) (fun q => xs.length - q.1) (0, e) ⟨Nat.zero_le _, he, hR⟩ ?_ ?_
  · exact Wk_tmpl [] ⟨rfl, rfl, rfl, rfl, rfl, rfl, trivial⟩ ⟨rfl, rfl, trivial⟩ rfl rfl
  · intro q hq0
    obtain ⟨h1, h2, h3⟩ := hq0
    have hd := fun h : q.1 < xs.length => mvs_drop (e := q.2) h
    have hn1 : decide ((q.1 : Int) < xs.length) = true → (!smE q.2) = true → R = none := fun a b => by
      have a := of_decide_eq_true a
      rw [if_neg (by omega), hd (by omega), if_neg (by simp_all)] at h3
      exact h3.symm
    have hn2 : decide ((q.1 : Int) < xs.length) = true → (!smE (xs.getD (q.1 : Int).toNat (dflt TEd))) = true → R = none := fun a b => by
      have a := of_decide_eq_true a
      have b : (!smE (xs.getD q.1 (dflt TEd))) = true := b
      rw [if_neg (by omega), hd (by omega), if_neg (by simp_all)] at h3
      exact h3.symm
    have hn3 : decide ((xs.length : Int) = 0) = true → (!smE q.2) = true → R = none := fun a b => by
      have a := of_decide_eq_true a
      rw [if_pos ⟨by omega, by simpa using b⟩] at h3
      exact h3.symm
    have hy1 : decide ((q.1 : Int) < xs.length) = true → (!smE q.2) = false → (!smE (xs.getD (q.1 : Int).toNat (dflt TEd))) = false → (if xs.length = 0 ∧ smE (mvE q.2 (xs.getD (q.1 : Int).toNat (dflt TEd))) = false then none else mvs (mvE q.2 (xs.getD (q.1 : Int).toNat (dflt TEd))) (xs.drop (q.1 + 1))) = R := fun a b c => by
      have a := of_decide_eq_true a
      have c : (!smE (xs.getD q.1 (dflt TEd))) = false := c
      rw [if_neg (by omega), hd (by omega), if_pos (by simp_all)] at h3
      rw [if_neg (by omega)]
      exact h3
    have hy2 : decide ((q.1 : Int) < xs.length) = false → (decide ((xs.length : Int) = 0) = true → (!smE q.2) = false) → R = some q.2 := fun a b => by
      have a := of_decide_eq_false a
      rw [if_neg (by rintro ⟨h4, h5⟩; have := b (decide_eq_true (by omega)); simp_all), show q.1 = xs.length by omega, List.drop_length, mvs] at h3
      exact h3.symm
    clear h3 hd
    have zD1 := fun {z0} (zh : True) => issmall_ok z0
    have zD2 := fun {z0} {z1} (zh : _ ∧ _) => moved_ok z0 z1 zh.1 zh.2
    have zD3 := fun {z0} zh => ecopied_ok z0 zh
    refine stpM ?_ ?_ ?_ ?_ ?_ ?_ ?_ ?_ ?_ ?_ ?_ ?_ ?_ ?_ ?_ ?_ ?_ ?_ ?_ ?_ ?_ ?_ ?_ ?_ ?_ ?_ ?_ ?_ ?_ ?_ <;> (first | exact Mk.mk | exact trivial | (repeat intro hq))
    all_goals first
      | (have hR0 : R = none := by first | exact hn1 (by assumption) hq | exact hn2 (by assumption) hq | exact hn3 (by assumption) hq
         rw [hR0]; rfl)
      | (rw [hy2 (by assumption) (fun a => by first | exact hq | (exfalso; rw [hq] at a; cases a))]; rfl)
      | (have h9 : (!smE q.2) = false := by assumption
         simpa using h9)
      | (have h9 : (!smE (xs.getD (q.1 : Int).toNat (dflt TEd))) = false := hq
         simpa using h9)
      | skip
    refine ⟨(q.1 + 1, mvE q.2 (xs.getD (q.1 : Int).toNat (dflt TEd))), ?_, ⟨?_, h2, hy1 (by assumption) (by assumption) hq⟩, Wk_tmpl [] ⟨rfl, rfl, rfl, rfl, rfl, rfl, trivial⟩ ⟨rfl, rfl, trivial⟩ rfl rfl⟩
    · have h9 : decide ((q.1 : Int) < xs.length) = true := by assumption
      have h9 := of_decide_eq_true h9
      simp only; omega
    · have h9 : decide ((q.1 : Int) < xs.length) = true := by assumption
      have h9 := of_decide_eq_true h9
      simp only; omega
end Go.LX

set_option linter.unusedVariables false
set_option linter.unusedSimpArgs false
namespace Go.LX
open Go.Proofs
attribute [local irreducible] W WO OpW RW EndQ
theorem mvR_one {e b : Ed} : mvR e [b] = if (smE e && smE b) = true then some (mvE e b) else none := by
  unfold mvR
  rw [if_neg (by simp)]
  rfl
set_option maxHeartbeats 4000000 in
set_option maxRecDepth 20000 in
theorem imove_ok (e b : Ed) (he : e.2.2.length ≤ 16777216) (hb : b.2.2.length ≤ 16777216) : FnC Tryd.prog 34 [aEd e, aEd b] [aEd0, aEd0] (.tu [(true, [sI ((mvR e [b]).getD (0, 0, [])).1, sI ((mvR e [b]).getD (0, 0, [])).2.1, oBy ((mvR e [b]).getD (0, 0, [])).2.2]), (false, [sB (mvR e [b]).isSome])]) := by
  have h := imoves_ok e [b] he (by simp) (by simpa using hb)
  refine FnC_of (fn := Tryd.f34) Tryd.func34 rfl rfl rfl ?_
  have zE1 := fun (zh : True) => h
  refine stp ?_ ?_ ?_ ?_ ?_ ?_ ?_ ?_ ?_ ?_ <;> (first | exact Mk.mk | exact trivial | (repeat intro hq))
/-- One ends before the other begins. -/
def apE (a b : Ed) : Bool := (smE a && smE b) && (decide (a.1 + a.2.1 < b.1) || decide (b.1 + b.2.1 < a.1))
end Go.LX

