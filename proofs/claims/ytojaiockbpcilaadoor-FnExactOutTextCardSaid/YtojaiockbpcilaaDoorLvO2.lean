/- A part of the proof of the statement in the row text. -/
import Derived.Test.YtojaiockbpcilaaDoorLvO1
import Derived.Test.YtojaiockbpcilaaDoorLxStpW
set_option linter.unusedVariables false
set_option linter.unusedSimpArgs false
namespace Go.LX
open Go.Proofs
attribute [local irreducible] W WO OpW RW EndQ
def hexD : List UInt8 := [48, 49, 50, 51, 52, 53, 54, 55, 56, 57, 97, 98, 99, 100, 101, 102]
def hexB (b : UInt8) : List UInt8 := [hexD.getD (b.toNat / 16) 0, hexD.getD (b.toNat % 16) 0]
def hexL (xs : List UInt8) : List UInt8 := 46 :: xs.flatMap hexB
theorem hexL_take {xs : List UInt8} {i : Nat} (h : i < xs.length) : hexL (xs.take (i + 1)) = hexL (xs.take i) ++ hexB (xs.getD i 0) := by
  unfold hexL
  rw [List.take_add_one, List.getElem?_eq_getElem h, List.flatMap_append, List.getD_eq_getElem?_getD, List.getElem?_eq_getElem h]
  simp
theorem hexL_len {xs : List UInt8} : (hexL xs).length = 1 + 2 * xs.length := by
  unfold hexL
  induction xs with
  | nil => rfl
  | cons x xs ih => simp only [List.flatMap_cons, List.length_cons, List.length_append, hexB, List.length_nil] at ih ⊢; omega
theorem hx_hi (b : UInt8) : (toB ((b.toNat : Int) / 2 ^ min (Int.toNat 4) 8)).toNat = b.toNat / 16 := by
  have h := b.toNat_lt
  have e : (b.toNat : Int) / 2 ^ min (Int.toNat 4) 8 = ((b.toNat / 16 : Nat) : Int) := by
    rw [show min (Int.toNat 4) 8 = 4 from rfl]; omega
  have := toB_nat ((b.toNat / 16 : Nat) : Int)
  rw [e]; omega
theorem hx_lo (b : UInt8) : (b &&& UInt8.ofNat (Int.toNat 15)).toNat = b.toNat % 16 := by
  have h : (b &&& UInt8.ofNat (Int.toNat 15)).toNat = b.toNat &&& 15 := rfl
  rw [h]; exact Nat.and_two_pow_sub_one_eq_mod b.toNat 4
theorem hx_q (b : UInt8) : (b / UInt8.ofNat (Int.toNat 16)).toNat = b.toNat / 16 := rfl
theorem hx_r (b : UInt8) : (b % UInt8.ofNat (Int.toNat 16)).toNat = b.toNat % 16 := rfl
set_option maxHeartbeats 4000000 in
set_option maxRecDepth 20000 in
theorem shex_ok (xs : List UInt8) (hl : xs.length ≤ 16777216) : FnC Tryd.prog 77 [aBy xs] [aX] (.one (.d .st (hexL xs))) := by
  refine FnC_of (fn := Tryd.f77) Tryd.func77 rfl rfl rfl ?_
  refine stp ?_ ?_ ?_ ?_ ?_ ?_ ?_ ?_ ?_ ?_ ?_ ?_ ?_ ?_ ?_ ?_ <;> (first | exact Mk.mk | exact trivial | (repeat intro hq))
  refine W_loopT (fun i : Nat => St.tmpl 29 [(0, .one (.d (.sl .u8) xs)), (3, .one (.rf 6000 .ar)), (4, .one (.d (.i .i64) (i : Int)))] [(6000, .rows 5 .u8 false (hexL (xs.take i)))]) (fun i => i ≤ xs.length) (fun i => xs.length - i) 0 (Nat.zero_le _) ?_ ?_
  · exact Wk_tmpl [] ⟨rfl, rfl, rfl, trivial⟩ ⟨rfl, trivial⟩ rfl rfl
  · intro i hi
    have hn := hexL_len (xs := xs.take i)
    rw [List.length_take] at hn
    refine stp ?_ ?_ ?_ ?_ ?_ ?_ ?_ ?_ ?_ ?_ ?_ ?_ ?_ ?_ ?_ ?_ <;> (first | exact Mk.mk | exact trivial | (repeat intro hq))
    all_goals first
      | (show ((_ : Nat) : Int) < 16; rw [hx_q]; have := (xs.getD (i : Int).toNat (dflt .u8)).toNat_lt; omega)
      | (show ((_ : Nat) : Int) < 16; rw [hx_r]; omega)
      | (rw [hn]; simp only [List.length_cons, List.length_nil]; unfold maxLen; omega)
      | skip
    · have hlt : i < xs.length := by simpa using hq
      refine ⟨i + 1, by omega, by omega, Wk_tmpl [(6000, 27000)] ⟨rfl, rfl, rfl, trivial⟩ ⟨?_, trivial⟩ rfl rfl⟩
      refine congrArg (fun r => some (Ob.rows 5 .u8 false r)) ?_
      rw [hexL_take hlt]
      show hexL (xs.take i) ++ [hexD.getD _ 0, hexD.getD _ 0] = _
      rw [hx_q, hx_r]; rfl
    · have e : i = xs.length := by simp at hq; omega
      rw [e, List.take_length]
set_option maxHeartbeats 4000000 in
set_option maxRecDepth 20000 in
theorem ihex_ok (xs : List UInt8) (hl : xs.length ≤ 16777216) : FnC Tryd.prog 104 [aBy xs] [aX] (.one (.d .st (hexL xs))) := by
  refine FnC_of (fn := Tryd.f104) Tryd.func104 rfl rfl rfl ?_
  refine stp ?_ ?_ ?_ ?_ ?_ ?_ ?_ ?_ ?_ ?_ ?_ ?_ ?_ ?_ ?_ ?_ <;> (first | exact Mk.mk | exact trivial | (repeat intro hq))
  refine W_loopT (fun i : Nat => St.tmpl 25 [(3, .one (.rf 7000 .ar)), (7, .one (.d (.sl .u8) xs)), (8, .one (.d (.i .i64) (xs.length : Nat))), (9, .one (.d (.i .i64) (i : Int)))] [(7000, .rows 5 .u8 false (hexL (xs.take i)))]) (fun i => i ≤ xs.length) (fun i => xs.length - i) 0 (Nat.zero_le _) ?_ ?_
  · exact Wk_tmpl [] ⟨rfl, rfl, rfl, rfl, trivial⟩ ⟨rfl, trivial⟩ rfl rfl
  · intro i hi
    have hn := hexL_len (xs := xs.take i)
    rw [List.length_take] at hn
    refine stp ?_ ?_ ?_ ?_ ?_ ?_ ?_ ?_ ?_ ?_ ?_ ?_ ?_ ?_ ?_ ?_ <;> (first | exact Mk.mk | exact trivial | (repeat intro hq))
    all_goals first
      | (show ((_ : Nat) : Int) < 16; rw [hx_hi]; have := (xs.getD (i : Int).toNat (dflt .u8)).toNat_lt; omega)
      | (show ((_ : Nat) : Int) < 16; rw [hx_lo]; omega)
      | (rw [hn]; simp only [List.length_cons, List.length_nil]; unfold maxLen; omega)
      | skip
    · have hlt : i < xs.length := by simpa using hq
      refine ⟨i + 1, by omega, by omega, Wk_tmpl [(7000, 22000)] ⟨rfl, rfl, rfl, rfl, trivial⟩ ⟨?_, trivial⟩ rfl rfl⟩
      refine congrArg (fun r => some (Ob.rows 5 .u8 false r)) ?_
      rw [hexL_take hlt]
      show hexL (xs.take i) ++ [hexD.getD _ 0, hexD.getD _ 0] = _
      rw [hx_hi, hx_lo]; rfl
    · have e : i = xs.length := by simp at hq; omega
      rw [e, List.take_length]
abbrev aIs (xs : List Int) : SA := .c (.d (.sl (.i .i64)) xs)
def joinI (xs : List Int) : List UInt8 := Lib.join (xs.map Lib.itoa) [32]
theorem getI {xs : List Int} {i : Nat} (h : i < xs.length) : xs.getD (i : Int).toNat (dflt (.i .i64)) ∈ xs := by
  show xs.getD i _ ∈ xs
  rw [List.getD_eq_getElem?_getD, List.getElem?_eq_getElem h]; exact List.getElem_mem h
theorem joinI_len {xs : List Int} (hn : xs.length ≤ 10) (hb : ∀ x ∈ xs, -9223372036854775808 ≤ x ∧ x ≤ 9223372036854775807) : (joinI xs).length ≤ 1000000000 := by
  have key : ∀ ys : List Int, (∀ x ∈ ys, -9223372036854775808 ≤ x ∧ x ≤ 9223372036854775807) → (joinI ys).length ≤ 22 * ys.length := by
    intro ys
    induction ys with
    | nil => intro _; exact Nat.le_refl _
    | cons y ys ih =>
      intro h
      have h1 := itoa_len (h y (by simp))
      have h2 := ih fun x hx => h x (by simp [hx])
      unfold joinI at h2 ⊢
      cases ys with
      | nil => simp only [List.map_cons, List.map_nil, Lib.join_one, List.length_cons, List.length_nil]; omega
      | cons z zs =>
        rw [List.map_cons, Lib.join_cons, List.map_cons]
        rw [List.map_cons, Lib.join_cons] at h2
        simp only [Lib.joinTail, List.map_cons, List.flatten_cons, List.length_append, List.length_cons, List.length_nil] at h2 ⊢
        omega
  have := key xs hb
  omega
set_option maxHeartbeats 4000000 in
set_option maxRecDepth 20000 in
theorem joined_ok (xs : List Int) (hn : xs.length ≤ 10) (hb : ∀ x ∈ xs, -9223372036854775808 ≤ x ∧ x ≤ 9223372036854775807) : FnC Tryd.prog 103 [aIs xs] [aX] (.one (.d .st (joinI xs))) := by
  refine FnC_of (fn := Tryd.f103) Tryd.func103 rfl rfl rfl ?_
  refine stp ?_ ?_ ?_ ?_ ?_ ?_ ?_ ?_ ?_ ?_ ?_ ?_ ?_ ?_ ?_ ?_ <;> (first | exact Mk.mk | exact trivial | (repeat intro hq))
  refine W_loopT (fun i : Nat => St.tmpl 21 [(3, .one (.rf 7000 .ar)), (7, .one (.d (.sl (.i .i64)) xs)), (8, .one (.d (.i .i64) (xs.length : Nat))), (9, .one (.d (.i .i64) (i : Int)))] [(7000, .rows 9 .st false ((xs.take i).map Lib.itoa))]) (fun i => i ≤ xs.length) (fun i => xs.length - i) 0 (Nat.zero_le _) ?_ ?_
  · exact Wk_tmpl [] ⟨rfl, rfl, rfl, rfl, trivial⟩ ⟨rfl, trivial⟩ rfl rfl
  · intro i hi
    have zD1 := fun {z0} zh => itoa_ok z0 zh
    have zE1 := fun {z0} {z1} (zh : _ ∧ _) => join_ok z0 z1 zh.1 zh.2
    refine stp ?_ ?_ ?_ ?_ ?_ ?_ ?_ ?_ ?_ ?_ ?_ ?_ ?_ ?_ ?_ ?_ <;> (first | exact Mk.mk | exact trivial | (repeat intro hq))
    all_goals first
      | (show -9223372036854775808 ≤ _; exact (hb _ (getI (by simpa using hq))).1)
      | (show _ ≤ (9223372036854775807 : Int); exact (hb _ (getI (by simpa using hq))).2)
      | (simp only [List.length_map, List.length_take, List.length_cons, List.length_nil]; unfold maxLen; omega)
      | skip
    · have hlt : i < xs.length := by simpa using hq
      refine ⟨i + 1, by omega, by omega, Wk_tmpl [(7000, 18000)] ⟨rfl, rfl, rfl, rfl, trivial⟩ ⟨?_, trivial⟩ rfl rfl⟩
      refine congrArg (fun r => some (Ob.rows 9 .st false r)) ?_
      rw [List.take_add_one, List.getElem?_eq_getElem hlt, List.map_append]
      show _ ++ [Lib.itoa (xs.getD i 0)] = _
      rw [List.getD_eq_getElem?_getD, List.getElem?_eq_getElem hlt]; rfl
    · have e : i = xs.length := by simp at hq; omega
      rw [e, List.take_length]
      exact joinI_len hn hb
    · have e : i = xs.length := by simp at hq; omega
      rw [e, List.take_length]; rfl
end Go.LX
