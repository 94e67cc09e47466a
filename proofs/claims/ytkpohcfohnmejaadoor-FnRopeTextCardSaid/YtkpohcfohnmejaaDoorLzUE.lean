/- A part of the proof of the statement in the row text. -/
import Derived.Test.YtkpohcfohnmejaaDoorLzU6
import Derived.Lib.RuneCount
import Derived.Lib.Bytealg
import Derived.Lib.DecodeN
import Derived.Shelf.Spec.RuneCount
import Derived.Shelf.Bytes.SlCountOne
import Derived.Sort.Grow
import Derived.Test.YtkpohcfohnmejaaDoorLxFrz
set_option linter.unusedVariables false
set_option linter.unusedSimpArgs false
namespace Go.LX
open Go.Proofs
attribute [local irreducible] W WO OpW RW EndQ
/-- How many letters. -/
def rcU : Nat → List UInt8 → Nat
  | 0, _ => 0
  | n + 1, p => if p.length = 0 then 0 else 1 + rcU n (p.drop (stU p))
theorem rcU_0 : ∀ {n : Nat}, rcU n [] = 0
  | 0 => rfl
  | n + 1 => rfl
theorem rcU_fuel : ∀ {a b : Nat} {p : List UInt8}, p.length ≤ a → p.length ≤ b → vld p = true → rcU a p = rcU b p
  | a, b, [], _, _, _ => by rw [rcU_0, rcU_0]
  | 0, _, x :: xs, h, _, _ => by simp at h
  | _, 0, x :: xs, _, h, _ => by simp at h
  | a + 1, b + 1, x :: xs, ha, hb, hv => by
    obtain ⟨k0, k1⟩ := vld_fst hv (by simp)
    have hl : ((x :: xs).drop (stU (x :: xs))).length = (x :: xs).length - stU (x :: xs) := List.length_drop ..
    rw [rcU, rcU, if_neg (by simp), if_neg (by simp), rcU_fuel (a := a) (b := b) (by omega) (by omega) k1]
theorem rcU_app {y : List UInt8} : ∀ {n : Nat} {x : List UInt8} {m k : Nat}, x.length ≤ n → vld x = true → y.length ≤ m → x.length + y.length ≤ k → vld y = true → rcU k (x ++ y) = rcU n x + rcU m y
  | n, [], m, k, _, _, hm, hk, hy => by
    rw [rcU_0, List.nil_append, Nat.zero_add]
    exact rcU_fuel (by simpa using hk) hm hy
  | 0, x :: xs, m, k, hn, _, _, _, _ => by simp at hn
  | n + 1, x :: xs, m, k, hn, hx, hm, hk, hy => by
    obtain ⟨k0, k1⟩ := vld_fst hx (by simp)
    have k2 := (stU_cont k0).2.2
    cases k with
    | zero => simp at hk
    | succ k =>
      rw [rcU, if_neg (by simp), rcU, if_neg (by simp), stU_app k0, List.drop_append_of_le_length k2]
      have hl : ((x :: xs).drop (stU (x :: xs))).length = (x :: xs).length - stU (x :: xs) := List.length_drop ..
      rw [rcU_app (n := n) (m := m) (k := k) (by omega) k1 hm (by omega) hy]
      omega
def rcM (p : List UInt8) : Nat := rcU p.length p
theorem rcU_m {n : Nat} {p : List UInt8} (h : p.length ≤ n) (hv : vld p = true) : rcU n p = rcM p := rcU_fuel h (Nat.le_refl _) hv
theorem rcM_app {x y : List UInt8} (hx : vld x = true) (hy : vld y = true) : rcM (x ++ y) = rcM x + rcM y :=
  rcU_app (Nat.le_refl _) hx (Nat.le_refl _) (by rw [List.length_append]; exact Nat.le_refl _) hy
theorem ctM_rc {xs : List UInt8} : ∀ {f : Nat} {a : Nat} {l : List Int}, a ≤ xs.length → vld (xs.drop a) = true → ctM xs f (a : Int) = some l → l.length = rcM (xs.drop a) + 1
  | 0, a, l, _, _, h => by cases h
  | f + 1, a, l, ha, hv, h => by
    unfold ctM at h
    by_cases h0 : a < xs.length
    · have hl : (xs.drop a).length ≠ 0 := by rw [List.length_drop]; omega
      obtain ⟨k0, k1⟩ := vld_fst hv hl
      have k2 := (stU_cont k0).2.2
      rw [List.length_drop] at k2
      rw [if_pos (by omega), rs_eq xs a ha, if_neg (by omega), show ((a : Int) + (stU (xs.drop a) : Int)) = ((a + stU (xs.drop a) : Nat) : Int) by omega] at h
      obtain ⟨l', hl', rfl⟩ := Option.map_eq_some_iff.1 h
      rw [List.drop_drop] at k1
      have ih := ctM_rc (by omega) k1 hl'
      obtain ⟨n, hn⟩ : ∃ n, (xs.drop a).length = n + 1 := ⟨(xs.drop a).length - 1, by omega⟩
      have e : rcM (xs.drop a) = 1 + rcM (xs.drop (a + stU (xs.drop a))) := by
        rw [rcM, hn, rcU, if_neg hl, List.drop_drop, rcU_m (by rw [List.length_drop] at hn ⊢; omega) k1]
      rw [List.length_cons, ih, e]
      omega
    · rw [if_neg (by omega)] at h
      cases h
      rw [List.drop_of_length_le (by omega)]
      rfl
theorem cuL_rc {xs : List UInt8} (h : tokM xs = true) : (cuL xs).length = rcM xs + 1 := by
  have h4 := tokM_len h
  have hv := tok_vld h
  have h1 := of_decide_eq_true h
  unfold cuL at h1 ⊢
  rw [if_neg (by omega)] at h1 ⊢
  cases hc : ctM xs (xs.length + 1) 0 with
  | none => rw [hc] at h1; simp at h1
  | some l =>
    have := ctM_rc (xs := xs) (a := 0) (Nat.zero_le _) (by simpa using hv) hc
    rw [List.drop_zero] at this
    simpa using this
/-- The model's own way through a string, where it is text. -/
theorem get_getD {xs : List UInt8} {i : Nat} : (ByteArray.mk xs.toArray).get! i = xs.getD i 0 := by
  show xs.toArray[i]! = _
  by_cases h : i < xs.length
  · simp [List.getD_eq_getElem?_getD, h]
  · simp [List.getD_eq_getElem?_getD, h]; rfl
set_option maxHeartbeats 4000000 in
set_option maxRecDepth 20000 in
theorem dec_2 {n B C D E : Nat} (h : 192 ≤ B ∧ B < 224) (q : 194 ≤ B) (hn : 2 ≤ n) (hc : 128 ≤ C ∧ C ≤ 191) : (Lib.decodeN n B C D E).2 = 2 := by
  unfold Lib.decodeN
  rw [if_neg (by omega), if_pos (by omega), if_pos (by omega)]
set_option maxHeartbeats 4000000 in
set_option maxRecDepth 20000 in
theorem dec_3 {n B C D E : Nat} (h : 224 ≤ B ∧ B < 240) (hn : 3 ≤ n) (hc : (if B = 224 then 160 else 128) ≤ C ∧ C ≤ (if B = 237 then 159 else 191)) (hd : 128 ≤ D ∧ D ≤ 191) : (Lib.decodeN n B C D E).2 = 3 := by
  obtain ⟨h1, h2⟩ := hc
  have hc : 128 ≤ C ∧ C ≤ 191 := by
    constructor
    · split at h1 <;> omega
    · split at h2 <;> omega
  have k1 : B = 224 → 160 ≤ C := fun e => by rw [if_pos e] at h1; exact h1
  have k2 : B = 237 → C ≤ 159 := fun e => by rw [if_pos e] at h2; exact h2
  clear h1 h2
  unfold Lib.decodeN
  rw [if_neg (by omega), if_neg (by omega), if_pos (by omega), if_pos (by omega)]
set_option maxHeartbeats 4000000 in
set_option maxRecDepth 20000 in
theorem dec_4 {n B C D E : Nat} (h : 240 ≤ B ∧ B < 245) (hn : 4 ≤ n) (hc : (if B = 240 then 144 else 128) ≤ C ∧ C ≤ (if B = 244 then 143 else 191)) (hd : 128 ≤ D ∧ D ≤ 191) (he : 128 ≤ E ∧ E ≤ 191) : (Lib.decodeN n B C D E).2 = 4 := by
  obtain ⟨h1, h2⟩ := hc
  have hc : 128 ≤ C ∧ C ≤ 191 := by
    constructor
    · split at h1 <;> omega
    · split at h2 <;> omega
  have k1 : B = 240 → 144 ≤ C := fun e => by rw [if_pos e] at h1; exact h1
  have k2 : B = 244 → C ≤ 143 := fun e => by rw [if_pos e] at h2; exact h2
  clear h1 h2
  unfold Lib.decodeN
  rw [if_neg (by omega), if_neg (by omega), if_neg (by omega), if_pos (by omega), if_pos (by omega)]
theorem dec_st {xs : List UInt8} {i : Nat} (hi : i < xs.length) (h : stU (xs.drop i) ≠ 0) : (Utf8.decode ⟨xs.toArray⟩ i).2 = stU (xs.drop i) := by
  have hl : (xs.drop i).length = xs.length - i := List.length_drop ..
  have hsz : (ByteArray.mk xs.toArray).size = xs.length := by simp [ByteArray.size]
  have g : ∀ k, (xs.drop i).getD k 0 = xs.getD (i + k) 0 := fun k => getD_drop'
  have g0 : (xs.drop i).getD 0 0 = xs.getD i 0 := g 0
  rw [Lib.decode_at, hsz, get_getD, get_getD, get_getD, get_getD, ← hl, ← g0, ← g 1, ← g 2, ← g 3]
  rcases stU_def (xs.drop i) (by omega) with ⟨q1, q2⟩ | ⟨q1, q1', q2⟩ | ⟨q1, q2⟩ | ⟨q1, q2⟩ | ⟨q1, q2⟩
  · rw [q2]; unfold Lib.decodeN; rw [if_pos q1]
  · exact absurd q2 h
  · obtain ⟨q, q3⟩ := ite_nz q2 h
    rw [q3]
    exact dec_2 q1 q.2.1 q.1 q.2.2
  · obtain ⟨q, q3⟩ := ite_nz q2 h
    rw [q3]
    exact dec_3 q1 q.1 q.2.1 q.2.2
  · obtain ⟨q, q3⟩ := ite_nz q2 h
    rw [q3]
    exact dec_4 ⟨q1, q.2.1⟩ q.1 q.2.2.1 q.2.2.2.1 q.2.2.2.2
theorem rc_lib {xs : List UInt8} : ∀ {b a : Nat}, a ≤ xs.length → xs.length ≤ a + b → vld (xs.drop a) = true → Lib.runeCountFrom ⟨xs.toArray⟩ b a = rcM (xs.drop a)
  | 0, a, ha, hb, _ => by
    rw [List.drop_of_length_le (by omega)]; rfl
  | b + 1, a, ha, hb, hv => by
    have hsz : (ByteArray.mk xs.toArray).size = xs.length := by simp [ByteArray.size]
    unfold Lib.runeCountFrom
    rw [hsz]
    by_cases h0 : a < xs.length
    · have hl : (xs.drop a).length ≠ 0 := by rw [List.length_drop]; omega
      obtain ⟨k0, k1⟩ := vld_fst hv hl
      have k2 := (stU_cont k0).2.2
      rw [List.length_drop] at k2
      rw [List.drop_drop] at k1
      obtain ⟨n, hn⟩ : ∃ n, (xs.drop a).length = n + 1 := ⟨(xs.drop a).length - 1, by omega⟩
      have e : rcM (xs.drop a) = 1 + rcM (xs.drop (a + stU (xs.drop a))) := by
        rw [rcM, hn, rcU, if_neg hl, List.drop_drop, rcU_m (by rw [List.length_drop] at hn ⊢; omega) k1]
      rw [if_pos h0, dec_st h0 k0, rc_lib (by omega) (by omega) k1, e]
    · rw [if_neg h0, List.drop_of_length_le (by omega)]; rfl
theorem rc_eq {xs : List UInt8} (hv : vld xs = true) : Lib.runeCount ⟨xs.toArray⟩ = rcM xs := by
  have hsz : (ByteArray.mk xs.toArray).size = xs.length := by simp [ByteArray.size]
  have := rc_lib (xs := xs) (b := xs.length) (a := 0) (Nat.zero_le _) (by omega) (by simpa using hv)
  rw [Lib.runeCount, hsz, this, List.drop_zero]
end Go.LX

/- The numbers of letters and of line ends, as the kit's shelf has them, told as contracts of this logic. -/
set_option linter.unusedVariables false
set_option linter.unusedSimpArgs false
namespace Go.LX
open Go.Proofs Go.Shelf
def laysRc_ren : Go.Shelf.Ren := ⟨fun | 31 => 132 | 48 => 147 | n => n, fun | 30 => 25 | 3 => 3 | 4 => 4 | 0 => 0 | 5 => 5 | 9 => 9 | n => n, fun | n => n⟩
set_option maxRecDepth 100000 in
theorem laysRc : Go.Proofs.Lays7.n31 Tryd.prog laysRc_ren where
  mixed := by kernel_rfl
  f31 := Tryd.func132.trans (congrArg some (by kernel_rfl))
  f48 := Tryd.func147.trans (congrArg some (by kernel_rfl))
  t0 := Tryd.underlying0
  a0 := Tryd.isAgg0
  z0 := Tryd.sizeOf0
  v0 := Tryd.zeroValue0
  i0 := by kernel_rfl
  t3 := Tryd.underlying3
  a3 := Tryd.isAgg3
  z3 := Tryd.sizeOf3
  v3 := Tryd.zeroValue3
  i3 := by kernel_rfl
  t4 := Tryd.underlying4
  a4 := Tryd.isAgg4
  z4 := Tryd.sizeOf4
  v4 := Tryd.zeroValue4
  i4 := by kernel_rfl
  t5 := Tryd.underlying5
  a5 := Tryd.isAgg5
  z5 := Tryd.sizeOf5
  v5 := Tryd.zeroValue5
  i5 := by kernel_rfl
  t9 := Tryd.underlying9
  a9 := Tryd.isAgg9
  z9 := Tryd.sizeOf9
  v9 := Tryd.zeroValue9
  i9 := by kernel_rfl
  t30 := Tryd.underlying25
  a30 := Tryd.isAgg25
  z30 := Tryd.sizeOf25
  v30 := Tryd.zeroValue25
  i30 := by kernel_rfl
def laysCt_ren : Go.Shelf.Ren := ⟨fun | 13 => 133 | 24 => 132 | 25 => 148 | 12 => 149 | 31 => 147 | 19 => 159 | 20 => 160 | 21 => 161 | 22 => 162 | 23 => 163 | 29 => 165 | 30 => 166 | n => n, fun | 22 => 25 | 3 => 3 | 4 => 4 | 0 => 0 | 5 => 5 | 9 => 9 | 33 => 169 | 40 => 176 | 39 => 175 | n => n, fun | 0 => 2 | n => n⟩
set_option maxRecDepth 100000 in
theorem laysCt : Go.Proofs.SlLaysB.n13 Tryd.prog laysCt_ren where
  mixed := by kernel_rfl
  f13 := Tryd.func133.trans (congrArg some (by kernel_rfl))
  f25 := Tryd.func148.trans (congrArg some (by kernel_rfl))
  t0 := Tryd.underlying0
  a0 := Tryd.isAgg0
  z0 := Tryd.sizeOf0
  v0 := Tryd.zeroValue0
  t3 := Tryd.underlying3
  a3 := Tryd.isAgg3
  z3 := Tryd.sizeOf3
  v3 := Tryd.zeroValue3
  t4 := Tryd.underlying4
  a4 := Tryd.isAgg4
  z4 := Tryd.sizeOf4
  v4 := Tryd.zeroValue4
  t5 := Tryd.underlying5
  a5 := Tryd.isAgg5
  z5 := Tryd.sizeOf5
  v5 := Tryd.zeroValue5
  t22 := Tryd.underlying25
  a22 := Tryd.isAgg25
  z22 := Tryd.sizeOf25
  v22 := Tryd.zeroValue25

theorem frame_below {w w' : World} (h : Go.RowKit.Below w.heap.size w w') : FrameC w w' [] [] :=
  ⟨h.os, h.tape, h.output, h.size, fun b hb _ _ => h.block b hb, fun b hb _ f _ => cell_block (h.block b hb) f, fun b hb _ f => frozen_block (h.block b hb) f⟩
/-- A call that makes a datum without memory. -/
theorem post_flat [Glob] {w w' : World} {I : Nat → Prop} {args post : List SA} {t : Ty} {x : t.T} {vals : List Value} {v : Value} (hI : ∀ b, I b → b < w.heap.size) (h : Go.RowKit.Below w.heap.size w w') (hp : ARs w' I post vals [] []) (h1 : v.oneCell' = true) (hv : RT w' I t x [v]) : FnPost args post (.one (.d t x)) w I vals [] [] (.returned v) w' := by
  refine ⟨v, rfl, frame_below h, I, [], [], fun _ hb => hb, fun b hb => ⟨Nat.lt_of_lt_of_le (hI b hb) h.size, fun _ => .inl hb⟩, hp, ⟨h1, ?_⟩, by simp, fun b hb => by simp at hb⟩
  refine Rows.single.2 ⟨v, ?_, rfl, hv⟩
  exact val_one h1
/-- What bytes say of the memory. -/
theorem bytes_at {w : World} {S : Nat → Prop} {xs : List UInt8} {v : Value} (h : RT w S (.sl .u8) xs [v]) : ∃ A cap, v = .slice A xs.length cap ∧ xs.length ≤ cap ∧ (xs ≠ [] → ∃ b o, A = some ⟨b, o, none⟩ ∧ ∀ j, j < xs.length → w.cell? ⟨b, o + j, none⟩ = some (.int .u8 ((xs.getD j 0).toNat : Int))) := by
  obtain ⟨A, cap, hA, h1, h2, h3⟩ := h
  simp only [List.cons.injEq, and_true] at hA
  refine ⟨A, cap, hA, h1, fun hx => ?_⟩
  obtain ⟨x0, xr, rfl⟩ : ∃ x0 xr, xs = x0 :: xr := by
    cases xs with
    | nil => exact absurd rfl hx
    | cons a b => exact ⟨a, b, rfl⟩
  obtain ⟨b, o, vs, hA, hc, _⟩ := h3 0 x0 rfl
  refine ⟨b, o, hA, fun j hj => ?_⟩
  obtain ⟨b', o', vs', hA', hc', hr'⟩ := h3 j _ (List.getElem?_eq_getElem hj)
  rw [hA] at hA'
  cases hA'
  have hr' : vs' = [Value.int .u8 (((x0 :: xr)[j]).toNat : Int)] := hr'
  subst hr'
  have := hc'.2 0 _ rfl
  rw [List.getD_eq_getElem?_getD, List.getElem?_eq_getElem hj]
  simpa [Ty.w] using this
attribute [local irreducible] W WO OpW RW EndQ
set_option maxHeartbeats 4000000 in
set_option maxRecDepth 20000 in
theorem rc_nil : FnC Tryd.prog 132 [.c (.d (.sl .u8) [])] [.c .any] (.one (.d (.i .i64) (0 : Int))) := by
  refine FnC_of (fn := Tryd.f132) Tryd.func132 rfl rfl rfl ?_
  refine stp ?_ ?_ ?_ ?_ ?_ ?_ ?_ ?_ ?_ ?_ ?_ ?_ ?_ ?_ ?_ ?_ <;> (first | exact Mk.mk | exact trivial | (repeat intro hq))
  refine W_loopT (fun _ : Unit => St.tmpl 27 [(0, .one (.d (.sl .u8) [])), (3, .one (.d (.i .i64) 0)), (4, .one (.d (.i .i64) 0))] []) (fun _ => True) (fun _ => 0) () trivial (Wk_tmpl [] ⟨rfl, rfl, rfl, trivial⟩ trivial rfl rfl) ?_
  intro _ _
  refine stp ?_ ?_ ?_ ?_ ?_ ?_ ?_ ?_ ?_ ?_ ?_ ?_ ?_ ?_ ?_ ?_ <;> (first | exact Mk.mk | exact trivial | (repeat intro hq))
theorem runecount_ok (xs : List UInt8) (hl : xs.length ≤ 16777216) : FnC Tryd.prog 132 [.c (.d (.sl .u8) xs)] [.c .any] (.one (.d (.i .i64) (Lib.runeCount ⟨xs.toArray⟩ : Int))) := by
  by_cases hx : xs = []
  · subst hx; exact rc_nil
  · intro w I vals L B hI hargs hnd hf
    cases vals with
    | nil => exact hargs.elim
    | cons v vs =>
      obtain ⟨L1, L2, B1, B2, rfl, rfl, ⟨rfl, rfl, hv⟩, hr⟩ := hargs
      cases vs with
      | cons _ _ => exact hr.elim
      | nil =>
        obtain ⟨rfl, rfl⟩ := hr
        obtain ⟨A, cap, rfl, h1, h2⟩ := bytes_at hv
        obtain ⟨b, o, rfl, hc⟩ := h2 hx
        have hsz : (ByteArray.mk xs.toArray).size = xs.length := by simp [ByteArray.size]
        have hC := Any7.utf8_RuneCount laysRc ⟨xs.toArray⟩ b o cap w (by rw [hsz]; exact h1) (fun j hj => by rw [hsz] at hj; rw [get_getD]; exact hc j hj) (by rw [hsz]; omega)
        rw [hsz] at hC
        refine Calls.mono hC ?_
        rintro e w' ⟨rfl, hw⟩
        refine post_flat hI.1 ?_ ⟨[], [], [], [], rfl, rfl, ⟨rfl, rfl, rfl⟩, rfl, rfl⟩ rfl rfl
        rcases hw with rfl | ⟨t, pos, rfl⟩
        · exact Go.RowKit.Below.refl _ _
        · exact ⟨rfl, rfl, rfl, by show w.heap.size ≤ (w.iter t pos).heap.size; simp [World.iter], fun b hb => by
            show (w.heap.push _)[b]? = w.heap[b]?
            rw [Array.getElem?_push, if_neg (Nat.ne_of_lt hb)]⟩
section
open Go.RowKit Go.Lib
set_option maxHeartbeats 2000000 in
set_option maxRecDepth 1000000 in
/-- Count of no bytes, whatever the room. -/
theorem count_none {P : Program} {ρ : Go.Shelf.Ren} (L : Go.Proofs.SlLaysB.n13 P ρ) (cap b2 o2 d : Nat) (cv : Int) (w : World) (hc2 : w.cell? ⟨b2, o2, none⟩ = some (.int .u8 cv)) :
    Calls P (ρ.f 13) #[.slice none 0 cap, .slice (some ⟨b2, o2, none⟩) 1 d] w fun e w' => e = .returned (.int .i64 0) ∧ w' = w := by
  have mixed := L.mixed
  have t0 := L.t0; have a0 := L.a0; have z0 := L.z0; have v0 := L.v0; have t3 := L.t3; have a3 := L.a3; have z3 := L.z3; have v3 := L.v3; have t4 := L.t4; have a4 := L.a4; have z4 := L.z4; have v4 := L.v4; have t5 := L.t5; have a5 := L.a5; have z5 := L.z5; have v5 := L.v5; have t22 := L.t22; have a22 := L.a22; have z22 := L.z22; have v22 := L.v22
  go_enter L.f13, SlBodyB.n13_ntmps ρ
  go_wp2
  rw [run_callFunc_extern L.f25 (by kernel_rfl) (by kernel_rfl) (by kernel_rfl) (e := Extern.BytealgCount.count) (by kernel_rfl), run_countNil w 0 cap cv]
  simp only [Result.andThen]
  rw [Oper.upon_value]
  go_wp2
  go_ret
  exact ⟨rfl, rfl⟩
end
theorem count_ok (xs : List UInt8) (c : UInt8) (hl : xs.length ≤ 16777216) : FnC Tryd.prog 133 [.c (.d (.sl .u8) xs), .c (.d (.sl .u8) [c])] [.c .any, .c .any] (.one (.d (.i .i64) (xs.count c : Int))) := by
  intro w I vals L B hI hargs hnd hf
  cases vals with
  | nil => exact hargs.elim
  | cons v vs =>
    obtain ⟨L1, L2, B1, B2, rfl, rfl, ⟨rfl, rfl, hv⟩, hr⟩ := hargs
    cases vs with
    | nil => exact hr.elim
    | cons v2 vs =>
      obtain ⟨L1, L2, B1, B2, rfl, rfl, ⟨rfl, rfl, hv2⟩, hr⟩ := hr
      cases vs with
      | cons _ _ => exact hr.elim
      | nil =>
        obtain ⟨rfl, rfl⟩ := hr
        obtain ⟨A2, cap2, rfl, g1, g2⟩ := bytes_at hv2
        obtain ⟨b2, o2, rfl, gc⟩ := g2 (by simp)
        have gc0 := gc 0 (by simp)
        obtain ⟨A, cap, rfl, h1, h2⟩ := bytes_at hv
        have hcv : ((c.toNat : Int)).toNat.toUInt8 = c := by simp
        have hbo : Lib.bytesOf (xs.map fun x => (x.toNat : Int)) = xs := by
          simp only [Lib.bytesOf, List.map_map]
          refine (List.map_congr_left fun x _ => ?_).trans (List.map_id xs)
          simp
        have fin : ∀ w', w' = w → FnPost [.c (.d (.sl .u8) xs), .c (.d (.sl .u8) [c])] [.c .any, .c .any] (.one (.d (.i .i64) (xs.count c : Int))) w I [.slice A xs.length cap, .slice (some ⟨b2, o2, none⟩) 1 cap2] [] [] (.returned (.int .i64 (Lib.countByte (Lib.bytesOf (xs.map fun x => (x.toNat : Int))) ((c.toNat : Int)).toNat.toUInt8))) w' := fun w' hw => by
          rw [hcv, hbo]
          subst hw
          exact post_flat hI.1 (Go.RowKit.Below.refl _ _) ⟨[], [], [], [], rfl, rfl, ⟨rfl, rfl, rfl⟩, [], [], [], [], rfl, rfl, ⟨rfl, rfl, rfl⟩, rfl, rfl⟩ rfl rfl
        have hget : ∀ i, i < xs.length → (xs.map fun x => (x.toNat : Int)).getD i 0 = ((xs.getD i 0).toNat : Int) := fun i hi => by
          simp [List.getD_eq_getElem?_getD, hi]
        by_cases hx : xs = []
        · subst hx
          cases A with
          | none =>
            refine (count_none laysCt cap b2 o2 cap2 (c.toNat : Int) w gc0).mono ?_
            rintro e w' ⟨he, hw⟩
            have hf := fin w' hw
            rw [hcv, hbo, Lib.countByte, List.count_nil] at hf
            rw [he]
            exact hf
          | some a =>
            refine (Any.bytes_Count_one_at laysCt a 0 cap b2 o2 cap2 [] (c.toNat : Int) w rfl (fun i hi => by simp at hi) gc0).mono ?_
            rintro e w' ⟨rfl, hw⟩
            exact fin w' hw
        · obtain ⟨b, o, rfl, hc⟩ := h2 hx
          refine (Any.bytes_Count_one laysCt b o xs.length cap b2 o2 cap2 (xs.map fun x => (x.toNat : Int)) (c.toNat : Int) w (by simp) (fun i hi => by rw [hget i hi]; exact hc i hi) gc0).mono ?_
          rintro e w' ⟨rfl, hw⟩
          exact fin w' hw
end Go.LX

