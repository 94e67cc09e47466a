/- Loops by templates; bytes, element by element. -/
import Derived.Test.YtbebnlhgnbnjoaaAxMut
set_option linter.unusedVariables false
set_option linter.unusedSimpArgs false
namespace Go.AX

variable {P : Program} {σ : St}

theorem W_loopT {ι : Type} {c : Code} {Q : Exit → St → Prop} (T : ι → St) (J : ι → Prop) (m : ι → Nat) (i0 : ι) (hJ : J i0) (h0 : Wk σ (T i0))
    (round : ∀ i, J i → W P c (Exit.thenS (fun σ' => ∃ i', J i' ∧ m i' < m i ∧ Wk σ' (T i')) Q) (T i)) : W P (.loop c) Q σ := by
  refine W_loop (J := fun k σ => ∃ i, J i ∧ m i = k ∧ Wk σ (T i)) (m i0) ⟨i0, hJ, rfl, h0⟩ ?_
  rintro k σ1 ⟨i, hi, rfl, hw⟩
  refine W.weak hw ((round i hi).mono ?_)
  intro e σ' q
  cases e with
  | normal =>
    obtain ⟨i', h1, h2, h3⟩ := q
    exact ⟨m i', h2, i', h1, rfl, h3⟩
  | _ => exact q

theorem bD_get {xs : List Int} {i : Nat} (h : i < xs.length) : (bD xs)[i]? = some [.v (.int .u8 (xs.getD i 0))] := by
  simp [bD, h]
theorem bD_getD {xs : List Int} {i : Nat} (h : i < xs.length) : (bD xs).getD i [] = [.v (.int .u8 (xs.getD i 0))] := by
  rw [List.getD_eq_getElem?_getD, bD_get h]; rfl
theorem bD_set {xs : List Int} {i : Nat} {x : Int} : (bD xs).set i [.v (.int .u8 x)] = bD (xs.set i x) := by
  simp [bD, List.map_set]

theorem op_index_b {o : Oper} {t : Nat} {ty e0 : TypeId} {x y : Operand} {xs : List Int} {kk : IntKind} {i : Int} {N : St → Prop} (ho : o.op = .indexAddr ty x y) (hd : o.dst = some t) (ht : Nat.blt t σ.n = true) (h0 : (σ.slots t).noOw = true) (hty : P.underlying ty = some (.slice e0)) (hs : sizeB P e0 = some 1) (hx : σ.ev x = .one (.d (.sl (bD xs)))) (hy : σ.ev y = .one (.d (.v (.int kk i)))) (hi0 : 0 ≤ i) (hi1 : i < xs.length) (hN : N (σ.put t (.one (.d (.p [.v (.int .u8 (xs.getD i.toNat 0))]))))) : OpW P o N σ := by
  have hr : (bD xs).getD i.toNat [] = [.v (.int .u8 (xs.getD i.toNat 0))] := bD_getD (by omega)
  refine op_index_d ho hd ht h0 hty hs hx hy hi0 (by rw [bD_len]; exact hi1) (by rw [hr]; rfl) ?_
  rw [hr]; exact hN
theorem op_index_bv {o : Oper} {t : Nat} {ty e0 : TypeId} {x y : Operand} {xs : List Int} {kk : IntKind} {i : Int} {N : St → Prop} (ho : o.op = .indexAddr ty x y) (hd : o.dst = some t) (ht : Nat.blt t σ.n = true) (h0 : (σ.slots t).noOw = true) (hty : P.underlying ty = some (.slice e0)) (hs : sizeB P e0 = some 1) {p : Pl} {wh : Bool} (hx : σ.evv x = .one (.vw p wh (bD xs))) (hy : σ.ev y = .one (.d (.v (.int kk i)))) (hi0 : 0 ≤ i) (hi1 : i < xs.length) (hN : N (σ.put t (.one (.vp p [.v (.int .u8 (xs.getD i.toNat 0))])))) : OpW P o N σ := by
  have hr : (bD xs).getD i.toNat [] = [.v (.int .u8 (xs.getD i.toNat 0))] := bD_getD (by omega)
  refine op_index_vp ho hd ht h0 hty hs hx hy hi0 (by rw [bD_len]; exact hi1) (by rw [hr]; rfl) ?_
  rw [hr]; exact hN
theorem op_store_b {o : Oper} {i j : Nat} {ty : TypeId} {e : Tag} {x y : Operand} {p : Pl} {xs : List Int} {v : Int} {N : St → Prop} (ho : o.op = .store ty x y) (hd : o.dst = none)
    (hx : σ.ev x = .one (.ep p i j)) (hj : j = 0) (hp : σ.absAt p = some (.ow e 1 0 (bD xs))) (hy : σ.ev y = .one (.d (.v (.int .u8 v)))) (hsz : sizeB P ty = some 1) (hi : i < xs.length)
    (hN : N (σ.upd p e 1 0 (bD (xs.set i v)))) : OpW P o N σ := by
  subst hj
  refine op_store_ep ho hd hx hp hy hsz (bD_get hi) (by simp) ?_
  rw [show ([.v (.int .u8 (xs.getD i 0))] : List D).set 0 (.v (.int .u8 v)) = [.v (.int .u8 v)] from rfl, bD_set]
  exact hN
theorem ld_vpv {o : Oper} {t : Nat} {ty : TypeId} {x : Operand} {p : Pl} {cs : List D} {v : Value} {N : St → Prop} (ho : o.op = .load ty x) (hd : o.dst = some t) (ht : Nat.blt t σ.n = true) (h0 : (σ.slots t).noOw = true)
    (hx : σ.ev x = .one (.vp p cs)) (hc : cs[0]? = some (.v v)) (hag : aggB P ty = some false) (hN : N (σ.put t (.one (.d (.v v))))) : OpW P o N σ := op_load_vp ho hd ht h0 hx hc hag hN

theorem W_blockN {id : Nat} {c : Code} {Q : Exit → St → Prop} (h : W P c (Exit.inBlockS id Q) σ) : W P (.block id c) Q σ := W_block h
theorem wrap64 {n : Int} (h0 : -9223372036854775808 ≤ n) (h1 : n ≤ 9223372036854775807) : IntKind.i64.wrap n = n := by
  rw [IntKind.wrap_i64]; omega

/-- What toByteS makes: the cells so far, zeros behind. -/
def part (xs : List Int) (i : Nat) : List Int := xs.take i ++ List.replicate (xs.length - i) 0
theorem part_len {xs : List Int} {i : Nat} (h : i ≤ xs.length) : (part xs i).length = xs.length := by simp [part]; omega
theorem part_set {xs : List Int} {i : Nat} (h : i < xs.length) : (part xs i).set i (xs.getD i 0) = part xs (i + 1) := by
  apply List.ext_getElem?
  intro j
  by_cases e : j = i
  · subst e
    rw [List.getElem?_set_self (by rw [part_len (by omega)]; exact h)]
    simp [part, List.getElem?_append, h, Nat.min_eq_left (show j + 1 ≤ xs.length by omega)]
  · rw [List.getElem?_set_ne (Ne.symm e)]
    simp only [part, List.getElem?_append, List.length_take, List.getElem?_take, List.getElem?_replicate, Nat.min_eq_left (show i ≤ xs.length by omega), Nat.min_eq_left (show i + 1 ≤ xs.length by omega)]
    by_cases h1 : j < i
    · simp [h1, show j < i + 1 by omega]
    · rw [if_neg h1, if_neg (show ¬ j < i + 1 by omega)]
      by_cases h2 : j < xs.length
      · rw [if_pos (by omega), if_pos (by omega)]
      · rw [if_neg (by omega), if_neg (by omega)]
theorem part_zero (xs : List Int) : part xs 0 = List.replicate xs.length 0 := by simp [part]
theorem part_all (xs : List Int) : part xs xs.length = xs := by simp [part]

end Go.AX
