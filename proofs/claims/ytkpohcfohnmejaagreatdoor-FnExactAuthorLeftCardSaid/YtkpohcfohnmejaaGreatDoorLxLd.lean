/- A part of the proof of the statement in the row text. -/
import Derived.Test.YtkpohcfohnmejaaGreatDoorLxCv
/- UTF-8 as Go's library reads it: the two tables, and what a rune at the head of a text is. -/
set_option linter.unusedVariables false
set_option linter.unusedSimpArgs false
namespace Go.LX
def firstL : List UInt8 := List.replicate 128 240 ++ (List.replicate 66 241 ++ (List.replicate 30 2 ++ ([19] ++ (List.replicate 12 3 ++ ([35] ++ ([3, 3] ++ ([52, 4, 4, 4, 68] ++ List.replicate 11 241)))))))
def accL : List (UInt8 × UInt8) := [(128, 191), (160, 191), (128, 159), (144, 191), (128, 143), (0, 0), (0, 0), (0, 0), (0, 0), (0, 0), (0, 0), (0, 0), (0, 0), (0, 0), (0, 0), (0, 0)]
/-- How long the rune at the head is; 0: none. -/
def stU (p : List UInt8) : Nat :=
  let b := (p.getD 0 0).toNat
  let c := (p.getD 1 0).toNat
  let d := (p.getD 2 0).toNat
  let e := (p.getD 3 0).toNat
  if p.length = 0 then 0
  else if b < 128 then 1
  else if 194 ≤ b ∧ b < 224 then (if 2 ≤ p.length ∧ (128 ≤ c ∧ c ≤ 191) then 2 else 0)
  else if 224 ≤ b ∧ b < 240 then (if 3 ≤ p.length ∧ ((if b = 224 then 160 else 128) ≤ c ∧ c ≤ (if b = 237 then 159 else 191)) ∧ (128 ≤ d ∧ d ≤ 191) then 3 else 0)
  else if 240 ≤ b ∧ b < 245 then (if 4 ≤ p.length ∧ ((if b = 240 then 144 else 128) ≤ c ∧ c ≤ (if b = 244 then 143 else 191)) ∧ (128 ≤ d ∧ d ≤ 191) ∧ (128 ≤ e ∧ e ≤ 191) then 4 else 0)
  else 0
theorem stU_le (p : List UInt8) : stU p ≤ 4 ∧ stU p ≤ p.length := by
  unfold stU
  simp only
  repeat' split
  all_goals omega
def vldN : Nat → List UInt8 → Bool
  | 0, p => decide (p.length = 0)
  | f + 1, p => decide (p.length = 0) || (!decide (stU p = 0) && vldN f (p.drop (stU p)))
/-- Is it UTF-8 throughout? -/
def vld (p : List UInt8) : Bool := vldN p.length p
theorem vldN_more : ∀ (f : Nat) (p : List UInt8), p.length ≤ f → vldN f p = vld p := by
  intro f
  induction f using Nat.strongRecOn with
  | _ f ih =>
    intro p hp
    unfold vld
    cases f with
    | zero => rw [show p.length = 0 by omega]
    | succ f =>
      cases hl : p.length with
      | zero => simp [vldN, hl]
      | succ m =>
        simp only [vldN, hl]
        by_cases h0 : stU p = 0
        · simp [h0]
        · have h1 : (p.drop (stU p)).length = p.length - stU p := List.length_drop ..
          have e1 := ih f (Nat.lt_succ_self f) (p.drop (stU p)) (by omega)
          have e2 := ih m (by omega) (p.drop (stU p)) (by omega)
          rw [e1, e2]
theorem vld_nil : vld [] = true := rfl
theorem vld_step {p : List UInt8} (h : p.length ≠ 0) : vld p = (!decide (stU p = 0) && vld (p.drop (stU p))) := by
  obtain ⟨m, hm⟩ : ∃ m, p.length = m + 1 := ⟨p.length - 1, by omega⟩
  have e : vld p = vldN (m + 1) p := by rw [vld, hm]
  rw [e, vldN, decide_eq_false (by omega), Bool.false_or]
  by_cases h0 : stU p = 0
  · simp [h0]
  · have h1 : (p.drop (stU p)).length = p.length - stU p := List.length_drop ..
    rw [vldN_more m _ (by omega)]
theorem stU_asc {p : List UInt8} (h : p.length ≠ 0) (hb : (p.getD 0 0).toNat < 128) : stU p = 1 := by
  unfold stU
  simp only
  rw [if_neg h, if_pos hb]
/-- Bytes below 128 at the head. -/
theorem vld_asc : ∀ (n : Nat) (p : List UInt8), n ≤ p.length → (∀ i, i < n → (p.getD i 0).toNat < 128) → vld p = vld (p.drop n)
  | 0, p, _, _ => rfl
  | n + 1, p, h, ha => by
    have h1 := stU_asc (p := p) (by omega) (ha 0 (by omega))
    rw [vld_step (by omega), h1]
    have h2 := vld_asc n (p.drop 1) (by rw [List.length_drop]; omega) (fun i hi => by
      have := ha (i + 1) (by omega)
      simpa [List.getD_eq_getElem?_getD, List.getElem?_drop, Nat.add_comm] using this)
    rw [h2, List.drop_drop]
    simp [Nat.add_comm]
end Go.LX

/- Words of eight bytes: what their top bits tell. -/
set_option linter.unusedVariables false
set_option linter.unusedSimpArgs false
namespace Go.LX
theorem iOr64 {a b : Nat} (ha : a < 18446744073709551616) (hb : b < 18446744073709551616) : iOr .u64 (a : Int) (b : Int) = ((a ||| b : Nat) : Int) ∧ a ||| b < 18446744073709551616 := by
  have hlt : a ||| b < 18446744073709551616 := Nat.or_lt_two_pow (n := 64) ha hb
  refine ⟨?_, hlt⟩
  have key : ((BitVec.ofInt 64 (a : Int) ||| BitVec.ofInt 64 (b : Int) : BitVec 64).toNat : Int) = ((a ||| b : Nat) : Int) := by
    rw [BitVec.ofInt_natCast, BitVec.ofInt_natCast, BitVec.toNat_or, BitVec.toNat_ofNat, BitVec.toNat_ofNat, Nat.mod_eq_of_lt (by omega), Nat.mod_eq_of_lt (by omega)]
  show IntKind.u64.wrap ((BitVec.ofInt 64 (a : Int) ||| BitVec.ofInt 64 (b : Int) : BitVec 64).toNat : Int) = _
  rw [key, inR_wrap]
  simp only [inR]; omega
theorem iAnd64 {a b : Nat} (ha : a < 18446744073709551616) (hb : b < 18446744073709551616) : iAnd .u64 (a : Int) (b : Int) = ((a &&& b : Nat) : Int) := by
  have hlt : a &&& b ≤ a := Nat.and_le_left
  have key : ((BitVec.ofInt 64 (a : Int) &&& BitVec.ofInt 64 (b : Int) : BitVec 64).toNat : Int) = ((a &&& b : Nat) : Int) := by
    rw [BitVec.ofInt_natCast, BitVec.ofInt_natCast, BitVec.toNat_and, BitVec.toNat_ofNat, BitVec.toNat_ofNat, Nat.mod_eq_of_lt (by omega), Nat.mod_eq_of_lt (by omega)]
  show IntKind.u64.wrap ((BitVec.ofInt 64 (a : Int) &&& BitVec.ofInt 64 (b : Int) : BitVec 64).toNat : Int) = _
  rw [key, inR_wrap]
  simp only [inR]; omega
/-- A higher byte beside lower ones. -/
theorem iOrUp {a b n m : Nat} (ha : a < n) (hn : n = 2 ^ m) (hb : b < 256) (hm : n * 256 ≤ 18446744073709551616) : iOr .u64 (a : Int) ((b : Int) * (n : Int)) = ((b * n + a : Nat) : Int) := by
  have h1 : b * n < 18446744073709551616 := by
    have : b * n ≤ 255 * n := Nat.mul_le_mul_right _ (by omega)
    omega
  have h2 := (iOr64 (a := a) (b := b * n) (by omega) h1).1
  rw [← Int.natCast_mul, h2, Nat.or_comm]
  subst hn
  rw [← Nat.shiftLeft_eq, ← Nat.shiftLeft_add_eq_or_of_lt ha]
def byI (xs : List UInt8) (i : Nat) : Nat := (xs.getD i 0).toNat
theorem byI_lt (xs : List UInt8) (i : Nat) : byI xs i < 256 := (xs.getD i 0).toNat_lt
/-- Eight bytes as one number. -/
def wdN (xs : List UInt8) : Nat := byI xs 7 * 72057594037927936 + (byI xs 6 * 281474976710656 + (byI xs 5 * 1099511627776 + (byI xs 4 * 4294967296 + (byI xs 3 * 16777216 + (byI xs 2 * 65536 + (byI xs 1 * 256 + byI xs 0))))))
theorem wdN_lt (xs : List UInt8) : wdN xs < 18446744073709551616 := by
  have := byI_lt xs 0; have := byI_lt xs 1; have := byI_lt xs 2; have := byI_lt xs 3; have := byI_lt xs 4; have := byI_lt xs 5; have := byI_lt xs 6; have := byI_lt xs 7
  unfold wdN; omega
theorem wdN_or (xs : List UInt8) : iOr .u64 (iOr .u64 (iOr .u64 (iOr .u64 (iOr .u64 (iOr .u64 (iOr .u64 (byI xs 0 : Int) ((byI xs 1 : Int) * 256)) ((byI xs 2 : Int) * 65536)) ((byI xs 3 : Int) * 16777216)) ((byI xs 4 : Int) * 4294967296)) ((byI xs 5 : Int) * 1099511627776)) ((byI xs 6 : Int) * 281474976710656)) ((byI xs 7 : Int) * 72057594037927936) = (wdN xs : Int) := by
  have h0 := byI_lt xs 0; have h1 := byI_lt xs 1; have h2 := byI_lt xs 2; have h3 := byI_lt xs 3; have h4 := byI_lt xs 4; have h5 := byI_lt xs 5; have h6 := byI_lt xs 6; have h7 := byI_lt xs 7
  rw [show ((byI xs 1 : Int) * 256) = (byI xs 1 : Int) * ((256 : Nat) : Int) from rfl, iOrUp h0 (m := 8) rfl h1 (by decide)]
  rw [show ((byI xs 2 : Int) * 65536) = (byI xs 2 : Int) * ((65536 : Nat) : Int) from rfl, iOrUp (n := 65536) (by omega) (m := 16) rfl h2 (by decide)]
  rw [show ((byI xs 3 : Int) * 16777216) = (byI xs 3 : Int) * ((16777216 : Nat) : Int) from rfl, iOrUp (n := 16777216) (by omega) (m := 24) rfl h3 (by decide)]
  rw [show ((byI xs 4 : Int) * 4294967296) = (byI xs 4 : Int) * ((4294967296 : Nat) : Int) from rfl, iOrUp (n := 4294967296) (by omega) (m := 32) rfl h4 (by decide)]
  rw [show ((byI xs 5 : Int) * 1099511627776) = (byI xs 5 : Int) * ((1099511627776 : Nat) : Int) from rfl, iOrUp (n := 1099511627776) (by omega) (m := 40) rfl h5 (by decide)]
  rw [show ((byI xs 6 : Int) * 281474976710656) = (byI xs 6 : Int) * ((281474976710656 : Nat) : Int) from rfl, iOrUp (n := 281474976710656) (by omega) (m := 48) rfl h6 (by decide)]
  rw [show ((byI xs 7 : Int) * 72057594037927936) = (byI xs 7 : Int) * ((72057594037927936 : Nat) : Int) from rfl, iOrUp (n := 72057594037927936) (by omega) (m := 56) rfl h7 (by decide)]
  rfl
theorem hi_bit {v : Nat} (h : v &&& 9259542123273814144 = 0) {k : Nat} (hk : (9259542123273814144 : Nat).testBit k = true) : v.testBit k = false := by
  have h1 : (v &&& 9259542123273814144).testBit k = (v.testBit k && (9259542123273814144 : Nat).testBit k) := Nat.testBit_and ..
  rw [h, Nat.zero_testBit, hk, Bool.and_true] at h1
  exact h1.symm
theorem bit_div {v k : Nat} (h : v.testBit k = false) : v / 2 ^ k % 2 = 0 := by
  rw [Nat.testBit_eq_decide_div_mod_eq] at h
  have := of_decide_eq_false h
  omega
/-- No top bit: all eight below 128. -/
theorem wd_asc {xs : List UInt8} (h : ∀ k, (9259542123273814144 : Nat).testBit k = true → (wdN xs).testBit k = false) : ∀ i, i < 8 → (xs.getD i 0).toNat < 128 := by
  have h0 := byI_lt xs 0; have h1 := byI_lt xs 1; have h2 := byI_lt xs 2; have h3 := byI_lt xs 3; have h4 := byI_lt xs 4; have h5 := byI_lt xs 5; have h6 := byI_lt xs 6; have h7 := byI_lt xs 7
  have k0 := bit_div (h 7 (by decide)); have k1 := bit_div (h 15 (by decide)); have k2 := bit_div (h 23 (by decide)); have k3 := bit_div (h 31 (by decide)); have k4 := bit_div (h 39 (by decide)); have k5 := bit_div (h 47 (by decide)); have k6 := bit_div (h 55 (by decide)); have k7 := bit_div (h 63 (by decide))
  simp only [wdN, Nat.reducePow] at k0 k1 k2 k3 k4 k5 k6 k7
  intro i hi
  show byI xs i < 128
  match i, hi with
  | 0, _ => omega
  | 1, _ => omega
  | 2, _ => omega
  | 3, _ => omega
  | 4, _ => omega
  | 5, _ => omega
  | 6, _ => omega
  | 7, _ => omega
theorem wd_hi {xs : List UInt8} (h : iAnd .u64 (wdN xs : Int) 9259542123273814144 = 0) : ∀ i, i < 8 → (xs.getD i 0).toNat < 128 := by
  have h' := iAnd64 (wdN_lt xs) (b := 9259542123273814144) (by decide)
  rw [show ((9259542123273814144 : Nat) : Int) = 9259542123273814144 from rfl, h] at h'
  exact wd_asc fun k hk => hi_bit (by omega) hk
end Go.LX

/- A slice with three indexes: p[:len(p):len(p)] of data. -/
set_option linter.unusedVariables false
set_option linter.unusedSimpArgs false
namespace Go.LX
variable {P : Program} {σ : St}
theorem op_slice3 [Glob] {o : Oper} {t' : Nat} {ty e' : TypeId} {x hb mb : Operand} {t : Ty} {k k' : IntKind} {n n' : Int} {xs : List t.T} {N : St → Prop} (ho : o.op = .slice ty x none (some hb) (some mb)) (hd : o.dst = some t') (ht : Nat.blt t' σ.n = true) (he : elemB P ty = some e') (hs : sizeB P e' = some t.w) (hx : σ.ev x = .one (.d (.sl t) xs)) (hh : σ.ev hb = .one (.d (.i k) n)) (hm : σ.ev mb = .one (.d (.i k') n'))
    (h1 : n = xs.length) (h2 : n' = xs.length) (hN : N (σ.over [(t', .one (.d (.sl t) xs))] [])) : OpW P o N σ := by
  refine OpW_obj (σ' := σ) hd ht rfl (fun K w I g tm hi => ?_) hN
  have hrt : RT w I (.sl t) xs [Act.eval ⟨tm, []⟩ x] := (hi.ev_one hx).1
  obtain ⟨A, cap, hu, q1, q2, q3⟩ := hrt
  simp only [List.cons.injEq, and_true] at hu
  have hel : P.elem ty = e' := by simp [Program.elem, elemB_ok he]
  have ht' : P.underlying ty = some (.slice (P.elem ty)) := by rw [hel]; exact elemB_ok he
  have hsz : (sizeOf (P.elem ty)).run P w = .ok t.w w := by rw [hel]; exact run_sizeB hs w
  have hrun : (execOp (Act.eval ⟨tm, []⟩) o).run P w = .ok (.value (.slice A xs.length xs.length)) w := by
    have h := run_slice_hm (P := P) (w := w) (t := ty) (a := A) (len := xs.length) (cap := cap) ht' k k' (xs.length : Int) (xs.length : Int) (by omega) (by omega) (by omega)
    simp only [execOp, ho, hu, hi.ev_i hh, hi.ev_i hm, h1, h2, Option.map_none, Option.map_some, Sem.run_bind, run_sliceAt_slice _ _ _ _ _ _ ht', h, hsz, Result.andThen_ok]
    simp [sliced]
    cases A <;> simp [Addr.add]
  refine ⟨_, w, I, g, hrun, hi, shape_one rfl ?_⟩
  exact ⟨A, xs.length, rfl, Nat.le_refl _, by omega, q3⟩
end Go.LX

/- What the two tables tell of a lead byte. -/
set_option linter.unusedVariables false
set_option linter.unusedSimpArgs false
namespace Go.LX
def LdS (b : UInt8) : Int := ((firstL.getD ((b.toNat : Int)).toNat (dflt Ty.u8) &&& UInt8.ofNat (Int.toNat 7)).toNat : Int)
def LdI (b : UInt8) : Int := ((toB (((firstL.getD ((b.toNat : Int)).toNat (dflt Ty.u8)).toNat : Int) / 2 ^ min (Int.toNat 4) 8)).toNat : Int)
def LdLO (b : UInt8) : Int := ((accL.getD (((toB (((firstL.getD ((b.toNat : Int)).toNat (dflt Ty.u8)).toNat : Int) / 2 ^ min (Int.toNat 4) 8)).toNat : Int)).toNat (dflt (Ty.u8.pr Ty.u8))).1.toNat : Int)
def LdHI (b : UInt8) : Int := ((accL.getD (((toB (((firstL.getD ((b.toNat : Int)).toNat (dflt Ty.u8)).toNat : Int) / 2 ^ min (Int.toNat 4) 8)).toNat : Int)).toNat (dflt (Ty.u8.pr Ty.u8))).2.toNat : Int)
def LdP (b : UInt8) : Bool := decide (LdI b < 16) && (decide (b.toNat < 128) || ((decide (LdS b = 2) && decide (194 ≤ b.toNat) && decide (b.toNat < 224) && decide (LdLO b = 128) && decide (LdHI b = 191)) || (decide (LdS b = 3) && decide (224 ≤ b.toNat) && decide (b.toNat < 240) && decide (LdLO b = if b.toNat = 224 then 160 else 128) && decide (LdHI b = if b.toNat = 237 then 159 else 191)) || (decide (LdS b = 4) && decide (240 ≤ b.toNat) && decide (b.toNat < 245) && decide (LdLO b = if b.toNat = 240 then 144 else 128) && decide (LdHI b = if b.toNat = 244 then 143 else 191)) || (decide (LdS b = 1) && (decide (b.toNat < 194) || decide (245 ≤ b.toNat)))))
set_option maxRecDepth 100000 in
theorem ldP_all : ∀ n : Fin 256, LdP (UInt8.ofNat n.val) = true := by decide +kernel
theorem ldP (b : UInt8) : LdP b = true := by
  have h := ldP_all ⟨b.toNat, b.toNat_lt⟩
  rw [UInt8.ofNat_toNat] at h
  exact h
theorem ldI (b : UInt8) : LdI b < 16 := by
  have h := ldP b
  simp only [LdP, Bool.and_eq_true, decide_eq_true_eq] at h
  exact h.1
theorem ldC (b : UInt8) (h1 : 128 ≤ b.toNat) : (LdS b = 2 ∧ 194 ≤ b.toNat ∧ b.toNat < 224 ∧ LdLO b = 128 ∧ LdHI b = 191) ∨ (LdS b = 3 ∧ 224 ≤ b.toNat ∧ b.toNat < 240 ∧ LdLO b = (if b.toNat = 224 then 160 else 128) ∧ LdHI b = (if b.toNat = 237 then 159 else 191)) ∨ (LdS b = 4 ∧ 240 ≤ b.toNat ∧ b.toNat < 245 ∧ LdLO b = (if b.toNat = 240 then 144 else 128) ∧ LdHI b = (if b.toNat = 244 then 143 else 191)) ∨ (LdS b = 1 ∧ (b.toNat < 194 ∨ 245 ≤ b.toNat)) := by
  have h := ldP b
  simp only [LdP, Bool.and_eq_true, Bool.or_eq_true, decide_eq_true_eq] at h
  rcases h.2 with h | ((h | h) | h) | h
  · omega
  · exact .inl ⟨h.1.1.1.1, h.1.1.1.2, h.1.1.2, h.1.2, h.2⟩
  · exact .inr (.inl ⟨h.1.1.1.1, h.1.1.1.2, h.1.1.2, h.1.2, h.2⟩)
  · exact .inr (.inr (.inl ⟨h.1.1.1.1, h.1.1.1.2, h.1.1.2, h.1.2, h.2⟩))
  · exact .inr (.inr (.inr h))
theorem firstL_len : firstL.length = 256 := by decide +kernel
theorem accL_len : accL.length = 16 := rfl
end Go.LX

