/- A part of the proof of the statement in the row text. -/
import Derived.Test.YtkpohcfohnmejaaGreatDoorLzW2
import Derived.Test.YtkpohcfohnmejaaGreatDoorLzX2
import Derived.Test.YtkpohcfohnmejaaGreatDoorLzG5
import Derived.Test.YtkpohcfohnmejaaGreatDoorLxStpL
set_option linter.unusedVariables false
set_option linter.unusedSimpArgs false
namespace Go.LX
open Go.Proofs
attribute [local irreducible] W WO OpW RW EndQ
theorem doR_len {t : List UInt8} {e : Ed} (hl : t.length ≤ 16777216) : (doR t e).length ≤ 400 := by
  unfold doR
  split
  · rename_i h
    exact tokM_len (tok_do hl h)
  · simp
/-- Edits applied as long as they are valid: the text and how many. -/
noncomputable def dos : List UInt8 → List Ed → List UInt8 × Nat
  | t, [] => (t, 0)
  | t, e :: es => if eokM t e = true then ((dos (doE t e) es).1, (dos (doE t e) es).2 + 1) else (t, 0)
theorem doE_len2 {t : List UInt8} {e : Ed} (hl : t.length ≤ 16777216) (h : eokM t e = true) : (doE t e).length ≤ 400 := by
  have := doR_len (t := t) (e := e) hl
  rwa [doR, if_pos h] at this
theorem dos_n : ∀ {es : List Ed} {t : List UInt8}, (dos t es).2 ≤ es.length
  | [], t => Nat.le_refl _
  | e :: es, t => by
    unfold dos
    split
    · have := dos_n (es := es) (t := doE t e); simp only [List.length_cons]; omega
    · simp
theorem dos_tok : ∀ {es : List Ed} {t : List UInt8}, t.length ≤ 16777216 → tokM t = true → tokM (dos t es).1 = true
  | [], t, _, h => h
  | e :: es, t, hl, h => by
    unfold dos
    split
    · rename_i he
      exact dos_tok (Nat.le_trans (doE_len2 hl he) (by decide)) (tok_do hl he)
    · exact h
theorem dos_split : ∀ {k : Nat} {es : List Ed} {t : List UInt8}, k ≤ (dos t es).2 → (dos t (es.take k)).2 = k ∧ (dos (dos t (es.take k)).1 (es.drop k)).1 = (dos t es).1 ∧ (dos (dos t (es.take k)).1 (es.drop k)).2 + k = (dos t es).2
  | 0, es, t, _ => ⟨rfl, rfl, rfl⟩
  | k + 1, [], t, h => by simp [dos] at h
  | k + 1, e :: es, t, h => by
    rw [dos] at h
    split at h
    · rename_i he
      simp only at h
      have h' : k ≤ (dos (doE t e) es).2 := by omega
      obtain ⟨h1, h2, h3⟩ := dos_split h'
      have e1 : dos t ((e :: es).take (k + 1)) = ((dos (doE t e) (es.take k)).1, (dos (doE t e) (es.take k)).2 + 1) := by
        rw [List.take_succ_cons, dos, if_pos he]
      have e2 : dos t (e :: es) = ((dos (doE t e) es).1, (dos (doE t e) es).2 + 1) := by rw [dos, if_pos he]
      rw [e1, e2, List.drop_succ_cons]
      exact ⟨by simp only; omega, h2, by simp only; omega⟩
    · simp at h
theorem getEd0 {xs : List Ed} {i : Nat} (h : i < xs.length) : xs.drop i = xs.getD i (dflt TEd) :: xs.drop (i + 1) := by
  rw [List.drop_eq_getElem_cons h, List.getD_eq_getElem?_getD, List.getElem?_eq_getElem h]; rfl
set_option maxHeartbeats 4000000 in
set_option maxRecDepth 20000 in
theorem seditsdo_ok (t : List UInt8) (xs : List Ed) (hl : t.length ≤ 16777216) (hn : xs.length ≤ 1000000) (hw : ∀ e ∈ xs, e.2.2.length ≤ 16777216) (h : tokM t = true) : FnC Tryz.prog 69 [aBy t, aEs xs] [aX, aX] (.tu [(false, [oBy (dos t xs).1]), (false, [sI (dos t xs).2])]) := by
  have h1 := textok_ok t hl
  rw [h] at h1
  refine FnC_of (fn := Tryz.f69) Tryz.func69 rfl rfl rfl ?_
  have zD1 := fun (zh : True) => h1
  refine stp ?_ ?_ ?_ ?_ ?_ ?_ ?_ ?_ ?_ ?_ ?_ ?_ ?_ ?_ ?_ ?_ <;> (first | exact Mk.mk | exact trivial | (repeat intro hq))
  · show 0 + t.length ≤ maxLen
    unfold maxLen; omega
  obtain ⟨A, hA⟩ : ∃ A, (dos t xs).1 = A := ⟨_, rfl⟩
  obtain ⟨N, hN⟩ : ∃ N, (dos t xs).2 = N := ⟨_, rfl⟩
  rw [hA, hN]
  refine W_loopT (fun q : Nat × List UInt8 => St.tmpl 39 [(1, .one (.d (.sl TEd) xs)), (6, .one (.rf 7000 .ar)), (7, .one (.d (.i .i64) (q.1 : Int)))] [(7000, .rows 5 .u8 false q.2)])
    (fun q => q.1 ≤ xs.length ∧ q.2.length ≤ 16777216 ∧ (dos q.2 (xs.drop q.1)).1 = A ∧ (dos q.2 (xs.drop q.1)).2 + q.1 = N) (fun q => xs.length - q.1) (0, t) ⟨Nat.zero_le _, hl, hA, hN⟩ ?_ ?_
  · exact Wk_tmpl [(7000, 16000)] ⟨rfl, rfl, rfl, trivial⟩ ⟨rfl, trivial⟩ rfl rfl
  · rintro ⟨i, u⟩ ⟨j1, j2, j3, j4⟩
    simp only at j1 j2 j3 j4 ⊢
    have h2 := sdo_ok u (xs.getD (i : Int).toNat (dflt TEd)) j2 (getEd hw _)
    by_cases hlt : i < xs.length
    · have hd := getEd0 hlt
      rw [hd, dos] at j3 j4
      cases he : eokM u (xs.getD (i : Int).toNat (dflt TEd)) with
      | true =>
        have he' : eokM u (xs.getD i (dflt TEd)) = true := he
        rw [if_pos he'] at j3 j4
        rw [he, doR, if_pos he] at h2
        have zE1 := fun (zh : True) => h2
        refine stp ?_ ?_ ?_ ?_ ?_ ?_ ?_ ?_ ?_ ?_ ?_ ?_ ?_ ?_ ?_ ?_ <;> (first | exact Mk.mk | exact trivial | (repeat intro hq))
        have hl2 := doE_len2 j2 he'
        exact ⟨(i + 1, doE u (xs.getD i (dflt TEd))), by simp only; omega, ⟨by simp only; omega, by simp only; omega, j3, by simp only at j4 ⊢; omega⟩, Wk_tmpl [(7000, 29000)] ⟨rfl, rfl, rfl, trivial⟩ ⟨rfl, trivial⟩ rfl rfl⟩
      | false =>
        have he' : eokM u (xs.getD i (dflt TEd)) = false := he
        rw [if_neg (by rw [he']; simp)] at j3 j4
        rw [he, doR, if_neg (by rw [he]; simp)] at h2
        rw [← j3, show N = i by simp only at j4; omega]
        have zE1 := fun (zh : True) => h2
        refine stp ?_ ?_ ?_ ?_ ?_ ?_ ?_ ?_ ?_ ?_ ?_ ?_ ?_ ?_ ?_ ?_ <;> (first | exact Mk.mk | exact trivial | (repeat intro hq))
    · have e : i = xs.length := by omega
      rw [e, List.drop_length, dos] at j3 j4
      simp only at j3 j4
      rw [← j3, show N = xs.length by omega]
      refine stp ?_ ?_ ?_ ?_ ?_ ?_ ?_ ?_ ?_ ?_ ?_ ?_ ?_ ?_ ?_ ?_ <;> (first | exact Mk.mk | exact trivial | (repeat intro hq))
set_option maxHeartbeats 4000000 in
set_option maxRecDepth 20000 in
theorem seditsdo_no (t : List UInt8) (xs : List Ed) (hl : t.length ≤ 16777216) (h : tokM t = false) : FnC Tryz.prog 69 [aBy t, aEs xs] [aX, aX] (.tu [(false, [oBy []]), (false, [sI (-1)])]) := by
  have h1 := textok_ok t hl
  rw [h] at h1
  refine FnC_of (fn := Tryz.f69) Tryz.func69 rfl rfl rfl ?_
  have zD1 := fun (zh : True) => h1
  refine stp ?_ ?_ ?_ ?_ ?_ ?_ ?_ ?_ ?_ ?_ ?_ ?_ ?_ ?_ ?_ ?_ <;> (first | exact Mk.mk | exact trivial | (repeat intro hq))
set_option maxHeartbeats 4000000 in
set_option maxRecDepth 20000 in
theorem ieditsdo_no (t : List UInt8) (xs : List Ed) (hl : t.length ≤ 16777216) (h : tokM t = false) : FnC Tryz.prog 76 [aBy t, aEs xs] [aX, aX] (.tu [(false, [oBy []]), (false, [sI (-1)])]) := by
  have h1 := istext_ok t hl
  rw [h] at h1
  refine FnC_of (fn := Tryz.f76) Tryz.func76 rfl rfl rfl ?_
  have zD1 := fun (zh : True) => h1
  refine stp ?_ ?_ ?_ ?_ ?_ ?_ ?_ ?_ ?_ ?_ ?_ ?_ ?_ ?_ ?_ ?_ <;> (first | exact Mk.mk | exact trivial | (repeat intro hq))
set_option maxHeartbeats 4000000 in
set_option maxRecDepth 20000 in
theorem ieditsdo_ok (t : List UInt8) (xs : List Ed) (hl : t.length ≤ 16777216) (hn : xs.length ≤ 1000000) (hw : ∀ e ∈ xs, e.2.2.length ≤ 16777216) (h : tokM t = true) : FnC Tryz.prog 76 [aBy t, aEs xs] [aX, aX] (.tu [(false, [oBy (dos t xs).1]), (false, [sI (dos t xs).2])]) := by
  have h1 := istext_ok t hl
  rw [h] at h1
  have hc := clone_ok t hl
  refine FnC_of (fn := Tryz.f76) Tryz.func76 rfl rfl rfl ?_
  have zD1 := fun (zh : True) => h1
  have zD2 := fun (zh : True) => hc
  refine stp ?_ ?_ ?_ ?_ ?_ ?_ ?_ ?_ ?_ ?_ ?_ ?_ ?_ ?_ ?_ ?_ <;> (first | exact Mk.mk | exact trivial | (repeat intro hq))
  obtain ⟨A, hA⟩ : ∃ A, (dos t xs).1 = A := ⟨_, rfl⟩
  obtain ⟨N, hN⟩ : ∃ N, (dos t xs).2 = N := ⟨_, rfl⟩
  rw [hA, hN]
  refine W_loopT (fun q : Nat × List UInt8 => St.tmpl 33 [(6, .one (.rf 7000 .ar)), (7, .one (.d (.i .i64) (q.1 : Int))), (15, .one (.d (.sl TEd) xs)), (16, .one (.d (.i .i64) (xs.length : Nat))), (17, .one (.d (.i .i64) (q.1 : Int)))] [(7000, .rows 5 .u8 false q.2)])
    (fun q => q.1 ≤ xs.length ∧ q.2.length ≤ 16777216 ∧ (dos q.2 (xs.drop q.1)).1 = A ∧ (dos q.2 (xs.drop q.1)).2 + q.1 = N) (fun q => xs.length - q.1) (0, t) ⟨Nat.zero_le _, hl, hA, hN⟩ ?_ ?_
  · exact Wk_tmpl [(7000, 15000)] ⟨rfl, rfl, rfl, rfl, rfl, trivial⟩ ⟨rfl, trivial⟩ rfl rfl
  · rintro ⟨i, u⟩ ⟨j1, j2, j3, j4⟩
    simp only at j1 j2 j3 j4 ⊢
    have h2 := isedit_ok u (xs.getD (i : Int).toNat (dflt TEd)) j2 (getEd hw _)
    by_cases hlt : i < xs.length
    · have hd := getEd0 hlt
      rw [hd, dos] at j3 j4
      cases he : eokM u (xs.getD (i : Int).toNat (dflt TEd)) with
      | true =>
        have he' : eokM u (xs.getD i (dflt TEd)) = true := he
        rw [if_pos he'] at j3 j4
        rw [he] at h2
        obtain ⟨k1, k2, k3, k4, k5⟩ := eokM_ok j2 he
        have h3 := ido_ok u (xs.getD (i : Int).toNat (dflt TEd)) k1 k5 k2 ⟨k3, k4⟩
        have zE1 := fun (zh : True) => h2
        have zE2 := fun (zh : True) => h3
        refine stp ?_ ?_ ?_ ?_ ?_ ?_ ?_ ?_ ?_ ?_ ?_ ?_ ?_ ?_ ?_ ?_ <;> (first | exact Mk.mk | exact trivial | (repeat intro hq))
        have hl2 := doE_len2 j2 he'
        exact ⟨(i + 1, doE u (xs.getD i (dflt TEd))), by simp only; omega, ⟨by simp only; omega, by simp only; omega, j3, by simp only at j4 ⊢; omega⟩, Wk_tmpl [(7000, 28000)] ⟨rfl, rfl, rfl, rfl, rfl, trivial⟩ ⟨rfl, trivial⟩ rfl rfl⟩
      | false =>
        have he' : eokM u (xs.getD i (dflt TEd)) = false := he
        rw [if_neg (by rw [he']; simp)] at j3 j4
        rw [he] at h2
        rw [← j3, show N = i by simp only at j4; omega]
        have zE1 := fun (zh : True) => h2
        refine stp ?_ ?_ ?_ ?_ ?_ ?_ ?_ ?_ ?_ ?_ ?_ ?_ ?_ ?_ ?_ ?_ <;> (first | exact Mk.mk | exact trivial | (repeat intro hq))
    · have e : i = xs.length := by omega
      rw [e, List.drop_length, dos] at j3 j4
      simp only at j3 j4
      rw [← j3, show N = xs.length by omega]
      refine stp ?_ ?_ ?_ ?_ ?_ ?_ ?_ ?_ ?_ ?_ ?_ ?_ ?_ ?_ ?_ ?_ <;> (first | exact Mk.mk | exact trivial | (repeat intro hq))
      rw [e]
end Go.LX

