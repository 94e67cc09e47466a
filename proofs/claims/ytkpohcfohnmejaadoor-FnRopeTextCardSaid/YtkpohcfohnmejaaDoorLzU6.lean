/- A part of the proof of the statement in the row text. -/
import Derived.Test.YtkpohcfohnmejaaDoorLzX2
import Derived.Test.YtkpohcfohnmejaaDoorLzE8
import Derived.Test.YtkpohcfohnmejaaDoorLxFrz
set_option linter.unusedVariables false
set_option linter.unusedSimpArgs false
namespace Go.LX
open Go.Proofs
attribute [local irreducible] W WO OpW RW EndQ
/-- The greatest cut of a text among its first sixteen bytes. -/
structure IsEnd (p : List UInt8) (n : Nat) : Prop where
  n0 : 0 < n
  n1 : n ≤ 16
  c : cutB p n = true
  mx : ∀ m : Nat, m ≤ 16 → cutB p m = true → m ≤ n
theorem IsEnd.one {p : List UInt8} {n m : Nat} (h : IsEnd p n) (h' : IsEnd p m) : n = m := Nat.le_antisymm (h'.mx _ h.n1 h.c) (h.mx _ h'.n1 h'.c)
/-- The chunks of a text. -/
inductive IsCh : List UInt8 → List (List UInt8) → Prop
  | nil : IsCh [] []
  | cons {p : List UInt8} {n : Nat} {cs : List (List UInt8)} : IsEnd p n → IsCh (p.drop n) cs → IsCh p (p.take n :: cs)
theorem IsEnd.ne {n : Nat} : ¬ IsEnd [] n := fun h => by
  have h1 := cutB_in h.c
  have h2 := h.n0
  simp only [List.length_nil] at h1
  omega
theorem IsCh.one {p : List UInt8} {cs : List (List UInt8)} (h : IsCh p cs) : ∀ {ds : List (List UInt8)}, IsCh p ds → cs = ds := by
  induction h with
  | nil =>
    intro ds h'
    cases h' with
    | nil => rfl
    | cons h1 _ => exact absurd h1 IsEnd.ne
  | @cons p n cs he hc ih =>
    intro ds h'
    cases h' with
    | nil => exact absurd he IsEnd.ne
    | @cons _ m ds he' hc' =>
      have e := he.one he'
      subst e
      rw [ih hc']
theorem IsCh.flat {p : List UInt8} {cs : List (List UInt8)} (h : IsCh p cs) : cs.flatten = p := by
  induction h with
  | nil => rfl
  | cons he hc ih => rw [List.flatten_cons, ih, List.take_append_drop]
/-- Inside a letter is no cut. -/
theorem no_cut {xs : List UInt8} {e m : Nat} (h : vld (xs.drop e) = true) (he : e < xs.length) (h1 : e < m) (h2 : m < e + stU (xs.drop e)) : ¬ vld (xs.drop m) = true := by
  intro hv
  have hl : (xs.drop e).length ≠ 0 := by rw [List.length_drop]; omega
  obtain ⟨k0, _⟩ := vld_fst h hl
  obtain ⟨k1, _, k3⟩ := stU_cont k0
  rw [List.length_drop] at k3
  have hm : (xs.drop m).length ≠ 0 := by rw [List.length_drop]; omega
  obtain ⟨j0, _⟩ := vld_fst hv hm
  obtain ⟨_, j2, _⟩ := stU_cont j0
  have k4 := k1 (m - e) (by omega) (by omega)
  rw [getD_drop', show e + (m - e) = m by omega] at k4
  rw [getD_drop', Nat.add_zero] at j2
  exact j2 k4
theorem ceM_end {xs : List UInt8} {a : Nat} : ∀ {f : Nat} {e : Nat}, vld (xs.drop e) = true → a ≤ e → e ≤ a + 16 → e ≤ xs.length → xs.length < e + f →
    ∃ n : Nat, ceM xs a f e = (n : Int) ∧ e ≤ n ∧ n ≤ a + 16 ∧ n ≤ xs.length ∧ vld (xs.drop n) = true ∧ ∀ m : Nat, n < m → m ≤ a + 16 → m ≤ xs.length → ¬ vld (xs.drop m) = true
  | 0, e, _, _, _, h1, h2 => by omega
  | f + 1, e, hv, ha, hb, hl, hf => by
    unfold ceM
    rw [rs_eq xs e hl]
    by_cases h0 : e < xs.length
    · have hl' : (xs.drop e).length ≠ 0 := by rw [List.length_drop]; omega
      obtain ⟨k0, k1⟩ := vld_fst hv hl'
      have k3 := (stU_cont k0).2.2
      rw [List.length_drop] at k3
      rw [List.drop_drop] at k1
      by_cases h1 : (e : Int) + (stU (xs.drop e) : Int) - (a : Int) ≤ 16
      · rw [if_pos ⟨by omega, h1⟩, show ((e : Int) + (stU (xs.drop e) : Int)) = ((e + stU (xs.drop e) : Nat) : Int) by omega]
        obtain ⟨n, i1, i2, i3, i4, i5, i6⟩ := ceM_end (xs := xs) (a := a) (f := f) (e := e + stU (xs.drop e)) k1 (by omega) (by omega) (by omega) (by omega)
        exact ⟨n, i1, by omega, i3, i4, i5, i6⟩
      · rw [if_neg (by omega)]
        exact ⟨e, rfl, Nat.le_refl _, hb, hl, hv, fun m h2 h3 h4 => no_cut hv h0 h2 (by omega)⟩
    · rw [if_neg (by omega)]
      exact ⟨e, rfl, Nat.le_refl _, hb, hl, hv, fun m h2 h3 h4 => by omega⟩
theorem coM_ch {xs : List UInt8} : ∀ {f : Nat} {a : Nat}, vld (xs.drop a) = true → a ≤ xs.length → xs.length < a + f → IsCh (xs.drop a) (coM xs f a)
  | 0, a, _, _, h => by omega
  | f + 1, a, hv, hl, hf => by
    unfold coM
    by_cases h0 : a < xs.length
    · rw [if_pos (by omega)]
      obtain ⟨n, e1, e2, e3, e4, e5, e6⟩ := ceM_end (xs := xs) (a := a) (f := xs.length + 1) (e := a) hv (Nat.le_refl _) (by omega) hl (by omega)
      have hgt : a < n := by
        have hl' : (xs.drop a).length ≠ 0 := by rw [List.length_drop]; omega
        obtain ⟨k0, k1⟩ := vld_fst hv hl'
        have k3 := (stU_cont k0).2.2
        have k4 : stU (xs.drop a) ≤ 4 := (stU_le _).1
        rw [List.length_drop] at k3
        rw [List.drop_drop] at k1
        refine Nat.lt_of_not_le fun hle => e6 (a + stU (xs.drop a)) (by omega) (by omega) (by omega) k1
      rw [e1]
      have hc : cut (some (a : Int)) (some (n : Int)) xs = (xs.drop a).take (n - a) := by
        have := cut_two (xs := xs) (a := a) (n := n - a) (by omega)
        rwa [show (a : Int) + ((n - a : Nat) : Int) = (n : Int) by omega] at this
      rw [hc]
      refine IsCh.cons ⟨by omega, by omega, ?_, fun m h1 h2 => ?_⟩ ?_
      · rw [cut_iff hv, List.length_drop, List.drop_drop]
        exact ⟨by omega, by rw [show a + (n - a) = n by omega]; exact e5⟩
      · rw [cut_iff hv, List.length_drop, List.drop_drop] at h2
        refine Nat.le_of_not_lt fun hlt => e6 (a + m) (by omega) (by omega) (by omega) h2.2
      · rw [List.drop_drop, show a + (n - a) = n by omega]
        exact coM_ch e5 e4 (by omega)
    · rw [if_neg (by omega), List.drop_of_length_le (by omega)]
      exact .nil
theorem chunks_ch {xs : List UInt8} (h : tokM xs = true) : IsCh xs (chunksM xs) := by
  rw [chunksM, if_pos h]
  have := coM_ch (xs := xs) (f := xs.length + 1) (a := 0) (by simpa using tok_vld h) (Nat.zero_le _) (by omega)
  simpa using this
end Go.LX

set_option linter.unusedVariables false
set_option linter.unusedSimpArgs false
namespace Go.LX
open Go.Proofs
attribute [local irreducible] W WO OpW RW EndQ
/-- Of chunks, the first of which begins at f: those that end by a; what stands ahead of a in the chunk that a parts; those that begin from b on; what stands behind b in the chunk that b parts. -/
def rpH (a : Nat) : Nat → List (List UInt8) → List (List UInt8)
  | _, [] => []
  | f, d :: r => (if f + d.length ≤ a then [d] else []) ++ rpH a (f + d.length) r
def rpL (a : Nat) : Nat → List (List UInt8) → List UInt8
  | _, [] => []
  | f, d :: r => (if f < a ∧ a < f + d.length then d.take (a - f) else []) ++ rpL a (f + d.length) r
def rpT (b : Nat) : Nat → List (List UInt8) → List (List UInt8)
  | _, [] => []
  | f, d :: r => (if b ≤ f then [d] else []) ++ rpT b (f + d.length) r
def rpR (b : Nat) : Nat → List (List UInt8) → List UInt8
  | _, [] => []
  | f, d :: r => (if f < b ∧ b < f + d.length then d.drop (b - f) else []) ++ rpR b (f + d.length) r
theorem rpH_0 {a : Nat} : ∀ {cs : List (List UInt8)} {f : Nat}, a < f → rpH a f cs = []
  | [], _, _ => rfl
  | d :: r, f, h => by rw [rpH, if_neg (by omega), rpH_0 (by omega)]; rfl
theorem rpL_0 {a : Nat} : ∀ {cs : List (List UInt8)} {f : Nat}, a ≤ f → rpL a f cs = []
  | [], _, _ => rfl
  | d :: r, f, h => by rw [rpL, if_neg (by omega), rpL_0 (by omega)]; rfl
theorem rpR_0 {a : Nat} : ∀ {cs : List (List UInt8)} {f : Nat}, a ≤ f → rpR a f cs = []
  | [], _, _ => rfl
  | d :: r, f, h => by rw [rpR, if_neg (by omega), rpR_0 (by omega)]; rfl
theorem rpT_all {a : Nat} : ∀ {cs : List (List UInt8)} {f : Nat}, a ≤ f → rpT a f cs = cs
  | [], _, _ => rfl
  | d :: r, f, h => by rw [rpT, if_pos h, rpT_all (by omega)]; rfl
theorem rp_front {a : Nat} : ∀ {cs : List (List UInt8)} {f : Nat}, (∀ d ∈ cs, d ≠ []) → f ≤ a → (rpH a f cs).flatten ++ rpL a f cs = cs.flatten.take (a - f)
  | [], _, _, _ => by simp [rpH, rpL]
  | d :: r, f, hd, hf => by
    have hr : ∀ d ∈ r, d ≠ [] := fun x hx => hd x (List.mem_cons_of_mem _ hx)
    have hdl : d.length ≠ 0 := fun h0 => hd d (by simp) (List.eq_nil_of_length_eq_zero h0)
    rw [rpH, rpL, List.flatten_cons]
    by_cases h1 : f + d.length ≤ a
    · have ih := rp_front (a := a) (cs := r) (f := f + d.length) hr h1
      rw [if_pos h1, if_neg (by omega), List.nil_append, List.flatten_append, List.flatten_singleton, List.append_assoc, ih, List.take_append, List.take_of_length_le (l := d) (by omega), show a - (f + d.length) = a - f - d.length by omega]
    · have hl : rpH a (f + d.length) r = [] := rpH_0 (by omega)
      rw [if_neg h1, hl, rpL_0 (by omega), List.append_nil, List.take_append, show a - f - d.length = 0 by omega, List.take_zero, List.append_nil]
      by_cases h2 : f < a
      · rw [if_pos ⟨h2, by omega⟩]; simp
      · rw [if_neg (by omega), show a - f = 0 by omega, List.take_zero]; simp
theorem rp_back {b : Nat} : ∀ {cs : List (List UInt8)} {f : Nat}, f ≤ b → rpR b f cs ++ (rpT b f cs).flatten = cs.flatten.drop (b - f)
  | [], _, _ => by simp [rpR, rpT]
  | d :: r, f, hf => by
    rw [rpR, rpT, List.flatten_cons]
    by_cases h1 : f + d.length ≤ b
    · have ih := rp_back (b := b) (cs := r) (f := f + d.length) h1
      by_cases h2 : b ≤ f
      · have h3 : d = [] := List.eq_nil_of_length_eq_zero (by omega)
        subst h3
        rw [if_neg (by simp only [List.length_nil]; omega), if_pos h2]
        simp only [List.length_nil, Nat.add_zero, List.nil_append, List.flatten_append, List.flatten_singleton] at ih ⊢
        exact ih
      · rw [if_neg (by omega), if_neg h2, List.nil_append, List.nil_append, ih, show b - (f + d.length) = b - f - d.length by omega, List.drop_append, List.drop_of_length_le (l := d) (by omega), List.nil_append]
    · rw [rpR_0 (by omega), rpT_all (by omega), List.append_nil, List.drop_append, show b - f - d.length = 0 by omega, List.drop_zero]
      by_cases h2 : f < b
      · rw [if_pos ⟨h2, by omega⟩, if_neg (by omega)]; simp
      · rw [if_neg (by omega), if_pos (by omega), show b - f = 0 by omega, List.drop_zero, List.flatten_append, List.flatten_singleton]; simp
theorem flat_vld : ∀ {cs : List (List UInt8)}, (∀ d ∈ cs, vld d = true) → vld cs.flatten = true
  | [], _ => rfl
  | d :: r, h => by
    rw [List.flatten_cons, vld_app _ _ (Nat.le_refl _) (h d (by simp))]
    exact flat_vld fun x hx => h x (List.mem_cons_of_mem _ hx)
theorem rpH_mem {a : Nat} : ∀ {cs : List (List UInt8)} {f : Nat}, ∀ d ∈ rpH a f cs, d ∈ cs
  | [], _, d, h => by simp [rpH] at h
  | c :: r, f, d, h => by
    rw [rpH] at h
    rcases List.mem_append.1 h with h | h
    · split at h
      · simp at h; rw [h]; simp
      · simp at h
    · exact List.mem_cons_of_mem _ (rpH_mem d h)
theorem rpT_mem {a : Nat} : ∀ {cs : List (List UInt8)} {f : Nat}, ∀ d ∈ rpT a f cs, d ∈ cs
  | [], _, d, h => by simp [rpT] at h
  | c :: r, f, d, h => by
    rw [rpT] at h
    rcases List.mem_append.1 h with h | h
    · split at h
      · simp at h; rw [h]; simp
      · simp at h
    · exact List.mem_cons_of_mem _ (rpT_mem d h)
theorem rpL_vld {a : Nat} {cs : List (List UInt8)} (h : ∀ d ∈ cs, vld d = true) (hd : ∀ d ∈ cs, d ≠ []) (ha : vld (cs.flatten.take a) = true) : vld (rpL a 0 cs) = true := by
  have h1 := rp_front (a := a) (cs := cs) (f := 0) hd (Nat.zero_le _)
  rw [Nat.sub_zero] at h1
  rw [← h1, vld_app _ _ (Nat.le_refl _) (flat_vld fun d hm => h d (rpH_mem d hm))] at ha
  exact ha
theorem rpR_vld {b : Nat} : ∀ {cs : List (List UInt8)} {f : Nat}, (∀ d ∈ cs, vld d = true) → vld (rpL b f cs) = true → vld (rpR b f cs) = true
  | [], _, _, _ => rfl
  | d :: r, f, h, hl => by
    have hr : ∀ d ∈ r, vld d = true := fun x hx => h x (List.mem_cons_of_mem _ hx)
    rw [rpL] at hl
    rw [rpR]
    by_cases h1 : f < b ∧ b < f + d.length
    · rw [if_pos h1, rpL_0 (by omega), List.append_nil] at hl
      rw [if_pos h1, rpR_0 (by omega), List.append_nil]
      have h2 := h d (by simp)
      rw [← List.take_append_drop (b - f) d, vld_app _ _ (Nat.le_refl _) hl] at h2
      exact h2
    · rw [if_neg h1, List.nil_append] at hl ⊢
      exact rpR_vld hr hl
/-- A rope, edited. -/
noncomputable def ropeE (cs : List (List UInt8)) (a b : Nat) (put : List UInt8) : List (List UInt8) := rpH a 0 cs ++ chunksM (rpL a 0 cs ++ put ++ rpR b 0 cs) ++ rpT b 0 cs
end Go.LX

set_option linter.unusedVariables false
set_option linter.unusedSimpArgs false
namespace Go.LX
open Go.Proofs
attribute [local irreducible] W WO OpW RW EndQ
theorem cut_first {p : List UInt8} (hv : vld p = true) (h : p.length ≠ 0) : ∃ n : Nat, 0 < n ∧ n ≤ 4 ∧ n ≤ p.length ∧ cutB p n = true := by
  obtain ⟨k0, k1⟩ := vld_fst hv h
  have k3 := (stU_cont k0).2.2
  have k4 : stU p ≤ 4 := (stU_le p).1
  exact ⟨stU p, by omega, k4, k3, (cut_iff hv).2 ⟨k3, k1⟩⟩
theorem IsCh.len {p : List UInt8} {cs : List (List UInt8)} (h : IsCh p cs) : cs.length ≤ p.length := by
  induction h with
  | nil => exact Nat.le_refl _
  | @cons p n cs he hc ih =>
    have h1 := cutB_in he.c
    have h2 := he.n0
    rw [List.length_drop] at ih
    rw [List.length_cons]
    omega
theorem IsCh.vd {p : List UInt8} {cs : List (List UInt8)} (h : IsCh p cs) : vld p = true → ∀ d ∈ cs, vld d = true ∧ d ≠ [] ∧ d.length ≤ 16 := by
  induction h with
  | nil => intro _ d hd; simp at hd
  | @cons p n cs he hc ih =>
    intro hv d hd
    obtain ⟨h1, h2, h3⟩ := cut_vld hv he.c
    rcases List.mem_cons.1 hd with rfl | hd
    · refine ⟨by simpa using h2, fun h => ?_, by rw [List.length_take]; have := he.n1; omega⟩
      have := congrArg List.length h
      rw [List.length_take, List.length_nil] at this
      have := he.n0
      omega
    · exact ih (by simpa using h3) d hd
/-- The chunks of a rope that holds text. -/
theorem chK_iff : ∀ {l : List (List UInt8)} {n : Int}, 0 ≤ n → n ≤ 400 → (chK l n = true ↔ (∀ d ∈ l, okCh d = true) ∧ n + l.flatten.length ≤ 400)
  | [], n, h0, hn => by simp [chK]; omega
  | d :: l, n, h0, hn => by
    rw [chK]
    simp only [Bool.and_eq_true, Bool.not_eq_true', decide_eq_false_iff_not, List.mem_cons, List.flatten_cons, List.length_append]
    constructor
    · rintro ⟨h1, h2, h3⟩
      obtain ⟨h4, h5⟩ := (chK_iff (by omega) (by omega)).1 h3
      refine ⟨?_, by omega⟩
      rintro e (rfl | he)
      · exact h1
      · exact h4 e he
    · rintro ⟨h1, h2⟩
      exact ⟨h1 d (.inl rfl), by omega, (chK_iff (by omega) (by omega)).2 ⟨fun e he => h1 e (.inr he), by omega⟩⟩
theorem okCh_iff {d : List UInt8} : okCh d = true ↔ (1 ≤ d.length ∧ d.length ≤ 16) ∧ vld d = true := by
  unfold okCh
  rw [tokM_eq]
  simp only [Bool.and_eq_true, decide_eq_true_eq]
  constructor
  · rintro ⟨⟨h1, h2⟩, h3, h4⟩; exact ⟨⟨by omega, by omega⟩, h4⟩
  · rintro ⟨⟨h1, h2⟩, h4⟩; exact ⟨⟨by omega, by omega⟩, by omega, h4⟩
/-- A rope: chunks that are right and together no more than 400 bytes. -/
structure Rp (cs : List (List UInt8)) : Prop where
  v : ∀ d ∈ cs, vld d = true
  n : ∀ d ∈ cs, d ≠ []
  s : ∀ d ∈ cs, d.length ≤ 16
  l : cs.flatten.length ≤ 400
theorem rp_iff {cs : List (List UInt8)} : chK cs 0 = true ↔ Rp cs := by
  rw [chK_iff (by decide) (by decide)]
  constructor
  · rintro ⟨h1, h2⟩
    refine ⟨fun d hd => (okCh_iff.1 (h1 d hd)).2, fun d hd h => ?_, fun d hd => (okCh_iff.1 (h1 d hd)).1.2, by omega⟩
    have := (okCh_iff.1 (h1 d hd)).1.1
    rw [h] at this; simp at this
  · intro h
    refine ⟨fun d hd => okCh_iff.2 ⟨⟨?_, h.s d hd⟩, h.v d hd⟩, by have := h.l; omega⟩
    have := h.n d hd
    exact Nat.pos_of_ne_zero fun h0 => this (List.eq_nil_of_length_eq_zero h0)
theorem Rp.text {cs : List (List UInt8)} (h : Rp cs) : chT cs = cs.flatten := by rw [chT, if_pos (rp_iff.2 h)]
theorem Rp.tok {cs : List (List UInt8)} (h : Rp cs) : tokM cs.flatten = true := by
  rw [tokM_eq, flat_vld h.v, Bool.and_true]; exact decide_eq_true h.l
theorem flat_ge : ∀ {cs : List (List UInt8)}, (∀ d ∈ cs, d ≠ []) → cs.length ≤ cs.flatten.length
  | [], _ => Nat.le_refl _
  | d :: r, h => by
    have := flat_ge (cs := r) fun x hx => h x (List.mem_cons_of_mem _ hx)
    have h1 : d.length ≠ 0 := fun h0 => h d (by simp) (List.eq_nil_of_length_eq_zero h0)
    simp only [List.flatten_cons, List.length_append, List.length_cons]
    omega
theorem Rp.len {cs : List (List UInt8)} (h : Rp cs) : cs.length ≤ 400 := Nat.le_trans (flat_ge h.n) h.l
/-- May a rope be edited so? -/
noncomputable def rokM (cs : List (List UInt8)) (a c : Int) (put : List UInt8) : Bool := chK cs 0 && eokM (chT cs) (a, c, put)
/-- What stands between, and the whole. -/
structure RpE (cs : List (List UInt8)) (a b : Nat) (put : List UInt8) : Prop where
  ab : a ≤ b
  bl : b ≤ cs.flatten.length
  mid : tokM (rpL a 0 cs ++ put ++ rpR b 0 cs) = true
  txt : (ropeE cs a b put).flatten = cs.flatten.take a ++ put ++ cs.flatten.drop b
  rp : Rp (ropeE cs a b put)
theorem rope_edit {cs : List (List UInt8)} {a c : Int} {put : List UInt8} (h : rokM cs a c put = true) : Rp cs ∧ (0 ≤ a ∧ 0 ≤ c) ∧ RpE cs a.toNat (a + c).toNat put := by
  simp only [rokM, Bool.and_eq_true] at h
  obtain ⟨h0, h⟩ := h
  have hr := rp_iff.1 h0
  rw [hr.text] at h
  obtain ⟨p1, p2, p3, p4, p5, p6⟩ := eok_parts h
  have hv := tok_vld p1
  simp only at p2 p3 p4 p5 p6
  obtain ⟨q1, q2, q3⟩ := cut_vld hv p2
  obtain ⟨r1, r2, r3⟩ := cut_vld hv p4
  have L := rpL_vld hr.v hr.n q2
  have Lb := rpL_vld hr.v hr.n r2
  have R := rpR_vld (b := (a + c).toNat) (f := 0) hr.v Lb
  have hf := rp_front (a := a.toNat) (cs := cs) (f := 0) hr.n (Nat.zero_le _)
  have hb := rp_back (b := (a + c).toNat) (cs := cs) (f := 0) (Nat.zero_le _)
  rw [Nat.sub_zero] at hf hb
  have lf := congrArg List.length hf
  have lb := congrArg List.length hb
  rw [List.length_append, List.length_take] at lf
  rw [List.length_append, List.length_drop] at lb
  have vp := tok_vld p5
  have mv : vld (rpL a.toNat 0 cs ++ put ++ rpR (a + c).toNat 0 cs) = true := by
    rw [List.append_assoc, vld_app _ _ (Nat.le_refl _) L, vld_app _ _ (Nat.le_refl _) vp]; exact R
  have ml : (rpL a.toNat 0 cs ++ put ++ rpR (a + c).toNat 0 cs).length ≤ 400 := by
    simp only [List.length_append]; omega
  have mt : tokM (rpL a.toNat 0 cs ++ put ++ rpR (a + c).toNat 0 cs) = true := by
    rw [tokM_eq, mv, Bool.and_true]; exact decide_eq_true ml
  have mc := chunks_ch mt
  have tx : (ropeE cs a.toNat (a + c).toNat put).flatten = cs.flatten.take a.toNat ++ put ++ cs.flatten.drop (a + c).toNat := by
    rw [← hf, ← hb, ropeE, List.flatten_append, List.flatten_append, mc.flat]
    simp only [List.append_assoc]
  refine ⟨hr, ⟨q1.1, p3⟩, by omega, by omega, mt, tx, ?_⟩
  have mem : ∀ d ∈ ropeE cs a.toNat (a + c).toNat put, d ∈ cs ∨ d ∈ chunksM (rpL a.toNat 0 cs ++ put ++ rpR (a + c).toNat 0 cs) := by
    intro d hd
    rw [ropeE, List.mem_append, List.mem_append] at hd
    rcases hd with (hd | hd) | hd
    · exact .inl (rpH_mem d hd)
    · exact .inr hd
    · exact .inl (rpT_mem d hd)
  have vd := mc.vd mv
  refine ⟨fun d hd => ?_, fun d hd => ?_, fun d hd => ?_, ?_⟩
  · exact (mem d hd).elim (hr.v d) fun h => (vd d h).1
  · exact (mem d hd).elim (hr.n d) fun h => (vd d h).2.1
  · exact (mem d hd).elim (hr.s d) fun h => (vd d h).2.2
  · rw [tx]
    simp only [List.length_append, List.length_take, List.length_drop]
    omega
end Go.LX

set_option linter.unusedVariables false
set_option linter.unusedSimpArgs false
namespace Go.LX
open Go.Proofs
attribute [local irreducible] W WO OpW RW EndQ
theorem okCh_eq (d : List UInt8) : okCh d = ((decide (1 ≤ (d.length : Int)) && decide ((d.length : Int) ≤ 16)) && vld d) := by
  rw [okCh, tokM_eq]
  by_cases h : (d.length : Int) ≤ 16
  · rw [decide_eq_true (show d.length ≤ 400 by omega), Bool.true_and]
  · rw [decide_eq_false h, Bool.and_false, Bool.false_and, Bool.false_and]
set_option maxHeartbeats 4000000 in
set_option maxRecDepth 20000 in
theorem ichunk_ok (d : List UInt8) (hl : d.length ≤ 16777216) : FnC Tryd.prog 129 [.ag [sBy d]] [.ag [.any]] (.one (sB (okCh d))) := by
  rw [okCh_eq]
  refine FnC_of (fn := Tryd.f129) Tryd.func129 rfl rfl rfl ?_
  have zD1 := fun {z0} {z1} {z2} (zh : True) => in_ok z0 z1 z2
  have zD2 := fun {z0} zh => valid_ok z0 zh
  refine stp ?_ ?_ ?_ ?_ ?_ ?_ ?_ ?_ ?_ ?_ ?_ ?_ ?_ ?_ ?_ ?_ <;> (first | exact Mk.mk | exact trivial | (intros; exact hl; done) | (repeat intro hq))
  · rw [hq]; rfl
  · rw [hq]; rfl
set_option maxHeartbeats 4000000 in
set_option maxRecDepth 20000 in
theorem iarechunks_ok (cs : List (List UInt8)) (hn : cs.length ≤ 16777216) (hl : ∀ d ∈ cs, d.length ≤ 16777216) : FnC Tryd.prog 95 [aChs cs] [aX] (.one (sB (chK cs 0))) := by
  refine FnC_of (fn := Tryd.f95) Tryd.func95 rfl rfl rfl ?_
  refine stp ?_ ?_ ?_ ?_ ?_ ?_ ?_ ?_ ?_ ?_ ?_ ?_ ?_ ?_ ?_ ?_ <;> (first | exact Mk.mk | exact trivial | (repeat intro hq))
  refine W_loopT (fun p : Nat × Int => St.tmpl 25 [(3, .one (.d (.i .i64) p.2)), (6, .one (.d (.sl TCh) cs)), (7, .one (.d (.i .i64) (cs.length : Nat))), (8, .one (.d (.i .i64) (p.1 : Int)))] []) (fun p => p.1 ≤ cs.length ∧ (0 ≤ p.2 ∧ p.2 ≤ 400) ∧ chK cs 0 = chK (cs.drop p.1) p.2) (fun p => cs.length - p.1) (0, 0) ⟨Nat.zero_le _, by decide, rfl⟩ ?_ ?_
  · exact Wk_tmpl [] ⟨rfl, rfl, rfl, rfl, trivial⟩ trivial rfl rfl
  · rintro ⟨i, n⟩ ⟨hi, hb, hm⟩
    simp only at hi hb hm
    have hwi : i < cs.length → (cs.getD (i : Int).toNat (dflt TCh)).length ≤ 16777216 := fun h => by
      show (cs.getD i (dflt TCh)).length ≤ _
      rw [List.getD_eq_getElem?_getD, List.getElem?_eq_getElem h]
      exact hl _ (List.getElem_mem h)
    have hd : i < cs.length → chK (cs.drop i) n = (okCh (cs.getD i []) && (!decide (400 < n + ((cs.getD i []).length : Int)) && chK (cs.drop (i + 1)) (n + (cs.getD i []).length))) := fun h => by
      rw [List.drop_eq_getElem_cons h, chK, List.getD_eq_getElem?_getD, List.getElem?_eq_getElem h]
      rfl
    have zD1 := fun {z0} zh => ichunk_ok z0 zh
    refine stp ?_ ?_ ?_ ?_ ?_ ?_ ?_ ?_ ?_ ?_ ?_ ?_ ?_ ?_ ?_ ?_ <;> (first | exact Mk.mk | exact trivial | (repeat intro hq))
    · rename_i q1
      have e1 : (i : Int) < (cs.length : Int) := of_decide_eq_true q1
      have e2 : okCh (cs.getD i []) = false := by have : (!okCh (cs.getD i [])) = true := hq; simpa only [Bool.not_eq_true'] using this
      rw [hm, hd (by omega), e2]; rfl
    · rename_i q1 q2
      have e1 : (i : Int) < (cs.length : Int) := of_decide_eq_true (by assumption)
      have e2 : okCh (cs.getD i []) = true := by have : (!okCh (cs.getD i [])) = false := q2; simpa only [Bool.not_eq_false'] using this
      have e3 : decide (400 < n + ((cs.getD i []).length : Int)) = true := hq
      rw [hm, hd (by omega), e2, e3]; rfl
    · rename_i q1 q2
      have e1 : (i : Int) < (cs.length : Int) := of_decide_eq_true (by assumption)
      have e2 : okCh (cs.getD i []) = true := by have : (!okCh (cs.getD i [])) = false := q2; simpa only [Bool.not_eq_false'] using this
      have e3 : decide (400 < n + ((cs.getD i []).length : Int)) = false := hq
      have e4 : ¬ 400 < n + ((cs.getD i []).length : Int) := of_decide_eq_false e3
      refine ⟨(i + 1, n + ((cs.getD i []).length : Int)), by simp only; omega, ⟨by simp only; omega, ⟨by simp only; omega, by simp only; omega⟩, ?_⟩, Wk_tmpl [] ⟨rfl, rfl, rfl, rfl, trivial⟩ trivial rfl rfl⟩
      rw [hm, hd (by omega), e2, e3]; rfl
    · have e1 : ¬ (i : Int) < (cs.length : Int) := of_decide_eq_false hq
      rw [hm, List.drop_eq_nil_of_le (by omega)]; rfl
set_option maxHeartbeats 4000000 in
set_option maxRecDepth 20000 in
theorem ichunkstext_ok (cs : List (List UInt8)) (hf : cs.flatten.length ≤ 16777216) (hn : cs.length ≤ 16777216) : FnC Tryd.prog 98 [aChs cs] [aX] (.one (oBy cs.flatten)) := by
  refine FnC_of (fn := Tryd.f98) Tryd.func98 rfl rfl rfl ?_
  refine stp ?_ ?_ ?_ ?_ ?_ ?_ ?_ ?_ ?_ ?_ ?_ ?_ ?_ ?_ ?_ ?_ <;> (first | exact Mk.mk | exact trivial | (repeat intro hq))
  refine W_loopT (fun i : Nat => St.tmpl 19 [(3, .one (.rf 7000 .ar)), (7, .one (.d (.sl TCh) cs)), (8, .one (.d (.i .i64) (cs.length : Nat))), (9, .one (.d (.i .i64) (i : Int)))] [(7000, .rows 5 .u8 false (cs.take i).flatten)]) (fun i => i ≤ cs.length) (fun i => cs.length - i) 0 (Nat.zero_le _) (Wk_tmpl [] ⟨rfl, rfl, rfl, rfl, trivial⟩ ⟨rfl, trivial⟩ rfl rfl) ?_
  intro i hi
  have hft := flat_take (cs := cs) (i := i + 1)
  have ht1 : i < cs.length → (cs.take (i + 1)).flatten = (cs.take i).flatten ++ cs.getD i [] := fun h => by rw [take_one h []]; simp
  refine stp ?_ ?_ ?_ ?_ ?_ ?_ ?_ ?_ ?_ ?_ ?_ ?_ ?_ ?_ ?_ ?_ <;> (first | exact Mk.mk | exact trivial | (repeat intro hq))
  · have hlt : i < cs.length := by have e1 : (i : Int) < (cs.length : Int) := of_decide_eq_true hq; omega
    have := congrArg List.length (ht1 hlt)
    rw [List.length_append] at this
    show ((cs.take i).flatten.length + (cs.getD i []).length) * 1 ≤ _
    omega
  · have hlt : i < cs.length := by have e1 : (i : Int) < (cs.length : Int) := of_decide_eq_true hq; omega
    have := congrArg List.length (ht1 hlt)
    rw [List.length_append] at this
    show (cs.take i).flatten.length + (cs.getD i []).length ≤ _
    unfold maxLen; omega
  · have hlt : i < cs.length := by have e1 : (i : Int) < (cs.length : Int) := of_decide_eq_true hq; omega
    exact ⟨i + 1, by omega, by omega, Wk_tmpl [(7000, 17000)] ⟨rfl, rfl, rfl, rfl, trivial⟩ ⟨congrArg (fun r => some (Ob.rows 5 Ty.u8 false r)) (ht1 hlt).symm, trivial⟩ rfl rfl⟩
  · have hge : ¬ (i : Int) < (cs.length : Int) := of_decide_eq_false hq
    rw [List.take_of_length_le (by omega)]
set_option maxHeartbeats 4000000 in
set_option maxRecDepth 20000 in
theorem ichunksof_ok (p : List UInt8) (cs : List (List UInt8)) (h : IsCh p cs) (hv : vld p = true) (hl : p.length ≤ 16777216) : FnC Tryd.prog 99 [aBy p] [aX] (.one (oChs cs)) := by
  have hcl := h.len
  refine FnC_of (fn := Tryd.f99) Tryd.func99 rfl rfl rfl ?_
  refine stp ?_ ?_ ?_ ?_ ?_ ?_ ?_ ?_ ?_ ?_ ?_ ?_ ?_ ?_ ?_ ?_ <;> (first | exact Mk.mk | exact trivial | (repeat intro hq))
  refine W.weak (Wk_deep (q := 6000) rfl (.inr rfl)) ?_
  refine W_loopT (fun q : List UInt8 × List (List UInt8) × List (List UInt8) => St.tmpl 30 [(0, .one (.d (.sl .u8) q.1)), (3, .one (.rf 6000 .ar))] [(6000, .rows 78 TCh true q.2.1)]) (fun q => IsCh q.1 q.2.2 ∧ vld q.1 = true ∧ q.1.length ≤ 16777216 ∧ q.2.1 ++ q.2.2 = cs) (fun q => q.1.length) (p, [], cs) ⟨h, hv, hl, rfl⟩ ?_ ?_
  · exact Wk_tmpl [] ⟨rfl, rfl, trivial⟩ ⟨rfl, trivial⟩ rfl rfl
  · rintro ⟨d, out, rest⟩ ⟨j1, j2, j3, j4⟩
    simp only at j1 j2 j3 j4 ⊢
    have hol : out.length ≤ 16777216 := by
      have := congrArg List.length j4
      rw [List.length_append] at this
      omega
    refine stp ?_ ?_ ?_ ?_ ?_ ?_ ?_ ?_ ?_ ?_ ?_ ?_ ?_ ?_ ?_ ?_ <;> (first | exact Mk.mk | exact trivial | (repeat intro hq))
    · have hd : 0 < d.length := by have := of_decide_eq_true hq; omega
      obtain ⟨n, rest', he, hc, hr⟩ : ∃ n r, IsEnd d n ∧ IsCh (d.drop n) r ∧ rest = d.take n :: r := by
        cases j1 with
        | nil => simp at hd
        | cons a b => exact ⟨_, _, a, b, rfl⟩
      subst hr
      have hn := cutB_in he.c
      have hn0 := he.n0
      have hn1 := he.n1
      refine W_loopT (fun m : Nat => St.tmpl 30 [(0, .one (.d (.sl .u8) d)), (3, .one (.rf 6000 .ar)), (4, .one (.d (.i .i64) (m : Int)))] [(6000, .rows 78 TCh true out)]) (fun m => n ≤ m ∧ m ≤ 16 ∧ m ≤ d.length) (fun m => m) (min d.length 16) ⟨by omega, by omega, by omega⟩ ?_ ?_
      · refine Wk_tmpl [] ⟨rfl, rfl, ?_, trivial⟩ ⟨rfl, trivial⟩ rfl rfl
        refine congrArg (fun r => SV.one (C.d (Ty.i IntKind.i64) r)) ?_
        show min (d.length : Int) 16 = ((min d.length 16 : Nat) : Int)
        omega
      · rintro m ⟨m1, m2, m3⟩
        have hmc : cutB d m = true → m = n := fun h => Nat.le_antisymm (he.mx m m2 h) m1
        have hcn : cut none (some (m : Int)) d = d.take m := by simp [cut]
        have hcd : cut (some (m : Int)) none d = d.drop m := by simp [cut]
        have hic := iscut_ok d m j3
        cases hb : cutB d m with
        | false =>
          rw [hb] at hic
          have zD1 := fun (zh : True) => hic
          refine stp ?_ ?_ ?_ ?_ ?_ ?_ ?_ ?_ ?_ ?_ ?_ ?_ ?_ ?_ ?_ ?_ <;> (first | exact Mk.mk | exact trivial | (repeat intro hq))
          have hne : m ≠ n := fun h => by rw [h, he.c] at hb; cases hb
          refine ⟨m - 1, by omega, ⟨by omega, by omega, by omega⟩, Wk_tmpl [] ⟨rfl, rfl, ?_, trivial⟩ ⟨rfl, trivial⟩ rfl rfl⟩
          refine congrArg (fun r => SV.one (C.d (Ty.i IntKind.i64) r)) ?_
          show (m : Int) - 1 = ((m - 1 : Nat) : Int)
          omega
        | true =>
          rw [hb] at hic
          have e := hmc hb
          subst e
          have hcl := clone_ok (cut none (some (m : Int)) d) (by rw [hcn, List.length_take]; omega)
          have zD1 := fun (zh : True) => hic
          have zD2 := fun (zh : True) => hcl
          refine stp ?_ ?_ ?_ ?_ ?_ ?_ ?_ ?_ ?_ ?_ ?_ ?_ ?_ ?_ ?_ ?_ <;> (first | exact Mk.mk | exact trivial | (repeat intro hq))
          · show out.length + 1 ≤ maxLen
            unfold maxLen; omega
          · refine ⟨(d.drop m, out ++ [d.take m], rest'), ?_, ⟨hc, ((cut_iff j2).1 hb).2, ?_, by simpa using j4⟩, Wk_tmpl [(6000, 26000)] ⟨?_, rfl, trivial⟩ ⟨?_, trivial⟩ rfl rfl⟩
            · simp only [List.length_drop]; omega
            · simp only [List.length_drop]; omega
            · exact congrArg (fun r => SV.one (C.d (Ty.sl Ty.u8) r)) hcd
            · exact congrArg (fun r => some (Ob.rows 78 TCh true (out ++ [r]))) hcn
    · have h0 : d = [] := List.eq_nil_of_length_eq_zero (by have := of_decide_eq_false hq; omega)
      subst h0
      cases j1 with
      | nil => rw [← j4, List.append_nil]
      | cons a b => exact absurd a IsEnd.ne
set_option maxHeartbeats 4000000 in
set_option maxRecDepth 20000 in
theorem irope_ok (cs : List (List UInt8)) (hn : cs.length ≤ 16777216) (hl : ∀ d ∈ cs, d.length ≤ 16777216) : FnC Tryd.prog 51 [.ag [sChs cs]] [.ag [.any]] (.one (sB (chK cs 0))) := by
  refine FnC_of (fn := Tryd.f51) Tryd.func51 rfl rfl rfl ?_
  have zD1 := fun (zh : True) => iarechunks_ok cs hn hl
  refine stp ?_ ?_ ?_ ?_ ?_ ?_ ?_ ?_ ?_ ?_ ?_ ?_ ?_ ?_ ?_ ?_ <;> (first | exact Mk.mk | exact trivial | (repeat intro hq))
set_option maxHeartbeats 4000000 in
set_option maxRecDepth 20000 in
theorem irtext_ok (cs : List (List UInt8)) (hf : cs.flatten.length ≤ 16777216) (hn : cs.length ≤ 16777216) : FnC Tryd.prog 53 [.ag [sChs cs]] [.ag [.any]] (.one (oBy cs.flatten)) := by
  refine FnC_of (fn := Tryd.f53) Tryd.func53 rfl rfl rfl ?_
  have zD1 := fun (zh : True) => ichunkstext_ok cs hf hn
  refine stp ?_ ?_ ?_ ?_ ?_ ?_ ?_ ?_ ?_ ?_ ?_ ?_ ?_ ?_ ?_ ?_ <;> (first | exact Mk.mk | exact trivial | (repeat intro hq))
set_option maxHeartbeats 4000000 in
set_option maxRecDepth 20000 in
theorem ircopied_ok (cs : List (List UInt8)) (hf : cs.flatten.length ≤ 16777216) (hn : cs.length ≤ 16777216) : FnC Tryd.prog 63 [.ag [sChs cs]] [.ag [.any]] (.ag [oChs cs]) := by
  have hw : ∀ d ∈ cs, d.length ≤ 16777216 := fun d h => by
    have : d.length ≤ cs.flatten.length := by
      obtain ⟨l, r, rfl⟩ := List.append_of_mem h
      simp
      omega
    omega
  refine FnC_of (fn := Tryd.f63) Tryd.func63 rfl rfl rfl ?_
  refine stp ?_ ?_ ?_ ?_ ?_ ?_ ?_ ?_ ?_ ?_ ?_ ?_ ?_ ?_ ?_ ?_ <;> (first | exact Mk.mk | exact trivial | (repeat intro hq))
  refine W.weak (Wk_nl (q := 4000) (id := 900000) (j := 0) 78 TCh rfl rfl rfl rfl) ?_
  refine W_loopT (fun i : Nat => St.tmpl 25 [(2, .one (.rf 3000 (.pb 0))), (3, .one (.rf 4000 (.pb 0))), (8, .one (.d (.sl TCh) cs)), (9, .one (.d (.i .i64) (cs.length : Nat))), (10, .one (.d (.i .i64) (i : Int)))] [(3000, .cells [.nl]), (4000, .cells [.rf 900000 .ar]), (900000, .rows 78 TCh true (cs.take i))]) (fun i => i ≤ cs.length) (fun i => cs.length - i) 0 (Nat.zero_le _) ?_ ?_
  · exact Wk_tmpl [] ⟨rfl, rfl, rfl, rfl, rfl, trivial⟩ ⟨rfl, rfl, rfl, trivial⟩ rfl rfl
  · intro i hi
    have l5 : (cs.take i).length = i := by rw [List.length_take]; omega
    have hwi : i < cs.length → (cs.getD (i : Int).toNat (dflt TCh)).length ≤ 16777216 := fun h => by
      show (cs.getD i (dflt TCh)).length ≤ _
      rw [List.getD_eq_getElem?_getD, List.getElem?_eq_getElem h]
      exact hw _ (List.getElem_mem h)
    have zD1 := fun {z0} zh => clone_ok z0 zh
    refine stp ?_ ?_ ?_ ?_ ?_ ?_ ?_ ?_ ?_ ?_ ?_ ?_ ?_ ?_ ?_ ?_ <;> (first | exact Mk.mk | exact trivial | (repeat intro hq))
    all_goals first
      | (exact hwi (by have := of_decide_eq_true hq; omega))
      | (show (cs.take i).length + 1 ≤ maxLen; unfold maxLen; omega)
      | (have hlt : i < cs.length := by have := of_decide_eq_true hq; omega
         exact ⟨i + 1, by omega, by omega, Wk_tmpl [(900000, 22000)] ⟨rfl, rfl, rfl, rfl, rfl, trivial⟩ ⟨rfl, rfl, congrArg (fun r => some (Ob.rows 78 TCh true r)) (take_one hlt (dflt TCh)).symm, trivial⟩ rfl rfl⟩)
      | (have : ¬ (i : Int) < (cs.length : Int) := of_decide_eq_false hq
         rw [List.take_of_length_le (by omega)])
end Go.LX

set_option linter.unusedVariables false
set_option linter.unusedSimpArgs false
namespace Go.LX
open Go.Proofs
attribute [local irreducible] W WO OpW RW EndQ
set_option maxHeartbeats 4000000 in
set_option maxRecDepth 20000 in
theorem growC_ok (n : Int) (h : 0 ≤ n ∧ n ≤ 1000000000) : FnC Tryd.prog 108 [.nl, aI n] [aX, aX] (.one (.own 78 TCh false [])) := by
  refine FnC_of (fn := Tryd.f108) Tryd.func108 rfl rfl rfl ?_
  refine stpC ?_ ?_ ?_ ?_ ?_ ?_ ?_ ?_ ?_ ?_ ?_ ?_ ?_ ?_ ?_ ?_ <;> (first | exact Mk.mk | exact trivial | (repeat intro hq))
/-- How many rows all have together. -/
def sumG {α : Type} (xss : List (List α)) : Nat := xss.flatten.length
theorem sumG_take {α : Type} {xss : List (List α)} {i : Nat} (h : i < xss.length) (d : List α) : sumG (xss.take (i + 1)) = sumG (xss.take i) + (xss.getD i d).length := by
  rw [take1 h d, sumG, sumG, List.flatten_append, List.length_append, List.flatten_singleton]
theorem sumG_le {α : Type} {xss : List (List α)} {i : Nat} : sumG (xss.take i) ≤ sumG xss := by
  have : sumG xss = sumG (xss.take i) + sumG (xss.drop i) := by
    unfold sumG; rw [← List.length_append, ← List.flatten_append, List.take_append_drop]
  omega
theorem flatG {α : Type} {xss : List (List α)} {i : Nat} (h : i < xss.length) (d : List α) : (xss.take (i + 1)).flatten = (xss.take i).flatten ++ xss.getD i d := by
  rw [take1 h d, List.flatten_append, List.flatten_singleton]
abbrev TChs : Ty := .sl TCh
set_option maxHeartbeats 4000000 in
set_option maxRecDepth 20000 in
theorem concatC_ok (xss : List (List (List UInt8))) (hn : xss.length ≤ 1000000) (hl : sumG xss ≤ 100000000) : FnC Tryd.prog 62 [.c (.d (.sl TChs) xss)] [aX] (.one (.own 78 TCh false xss.flatten)) := by
  refine FnC_of (fn := Tryd.f62) Tryd.func62 rfl rfl rfl ?_
  refine stp ?_ ?_ ?_ ?_ ?_ ?_ ?_ ?_ ?_ ?_ ?_ ?_ ?_ ?_ ?_ ?_ <;> (first | exact Mk.mk | exact trivial | (repeat intro hq))
  refine W_loopT (fun i : Nat => St.tmpl 36 [(0, .one (.d (.sl TChs) xss)), (3, .one (.d (.i .i64) (sumG (xss.take i) : Nat))), (9, .one (.d (.sl TChs) xss)), (10, .one (.d (.i .i64) (xss.length : Nat))), (11, .one (.d (.i .i64) (i : Int)))] []) (fun i => i ≤ xss.length) (fun i => xss.length - i) 0 (Nat.zero_le _) ?_ ?_
  · exact Wk_tmpl [] ⟨rfl, rfl, rfl, rfl, rfl, trivial⟩ trivial rfl rfl
  · intro i hi
    have hs := sumG_le (xss := xss) (i := i)
    have hs1 := sumG_le (xss := xss) (i := i + 1)
    have ht := fun h : i < xss.length => sumG_take h (dflt TChs)
    have zD1 := fun {z0} zh => growC_ok z0 zh
    refine stp ?_ ?_ ?_ ?_ ?_ ?_ ?_ ?_ ?_ ?_ ?_ ?_ ?_ ?_ ?_ ?_ <;> (first | exact Mk.mk | exact trivial | (repeat intro hq))
    · have hlt : i < xss.length := by simpa using hq
      refine ⟨i + 1, by omega, by omega, Wk_tmpl [] ⟨rfl, ?_, rfl, rfl, rfl, trivial⟩ trivial rfl rfl⟩
      refine congrArg (fun r => SV.one (C.d (Ty.i IntKind.i64) r)) ?_
      show (sumG (xss.take i) : Int) + ((xss.getD i (dflt TChs)).length : Nat) = _
      rw [ht hlt, Int.natCast_add]
    · refine W_loopT (fun i : Nat => St.tmpl 36 [(6, .one (.rf 7000 .ar)), (25, .one (.d (.sl TChs) xss)), (26, .one (.d (.i .i64) (xss.length : Nat))), (27, .one (.d (.i .i64) (i : Int)))] [(7000, .rows 78 TCh false (xss.take i).flatten)]) (fun i => i ≤ xss.length) (fun i => xss.length - i) 0 (Nat.zero_le _) ?_ ?_
      · exact Wk_tmpl [(7000, 25000)] ⟨rfl, rfl, rfl, rfl, trivial⟩ ⟨rfl, trivial⟩ rfl rfl
      · intro j hj
        have hs := sumG_le (xss := xss) (i := j)
        have hs1 := sumG_le (xss := xss) (i := j + 1)
        have ht := fun h : j < xss.length => sumG_take h (dflt TChs)
        unfold sumG at hs hs1 ht hl
        refine stp ?_ ?_ ?_ ?_ ?_ ?_ ?_ ?_ ?_ ?_ ?_ ?_ ?_ ?_ ?_ ?_ <;> (first | exact Mk.mk | exact trivial | (repeat intro hq))
        · have hlt : j < xss.length := by simpa using hq
          have := ht hlt
          show (xss.take j).flatten.length + (xss.getD j (dflt TChs)).length ≤ maxLen
          unfold maxLen; omega
        · have hlt : j < xss.length := by simpa using hq
          exact ⟨j + 1, by omega, by omega, Wk_tmpl [(7000, 34000)] ⟨rfl, rfl, rfl, rfl, trivial⟩ ⟨congrArg (fun r => some (Ob.rows 78 TCh false r)) (flatG hlt (dflt TChs)).symm, trivial⟩ rfl rfl⟩
        · have e : j = xss.length := by simp at hq; omega
          rw [e, List.take_length]
section
variable {a : Nat}
theorem rpH_app : ∀ {xs ys : List (List UInt8)} {f : Nat}, rpH a f (xs ++ ys) = rpH a f xs ++ rpH a (f + xs.flatten.length) ys
  | [], ys, f => by simp [rpH]
  | d :: r, ys, f => by simp only [List.cons_append, rpH, rpH_app (xs := r), List.append_assoc, List.flatten_cons, List.length_append, Nat.add_assoc]
theorem rpL_app : ∀ {xs ys : List (List UInt8)} {f : Nat}, rpL a f (xs ++ ys) = rpL a f xs ++ rpL a (f + xs.flatten.length) ys
  | [], ys, f => by simp [rpL]
  | d :: r, ys, f => by simp only [List.cons_append, rpL, rpL_app (xs := r), List.append_assoc, List.flatten_cons, List.length_append, Nat.add_assoc]
theorem rpT_app : ∀ {xs ys : List (List UInt8)} {f : Nat}, rpT a f (xs ++ ys) = rpT a f xs ++ rpT a (f + xs.flatten.length) ys
  | [], ys, f => by simp [rpT]
  | d :: r, ys, f => by simp only [List.cons_append, rpT, rpT_app (xs := r), List.append_assoc, List.flatten_cons, List.length_append, Nat.add_assoc]
theorem rpR_app : ∀ {xs ys : List (List UInt8)} {f : Nat}, rpR a f (xs ++ ys) = rpR a f xs ++ rpR a (f + xs.flatten.length) ys
  | [], ys, f => by simp [rpR]
  | d :: r, ys, f => by simp only [List.cons_append, rpR, rpR_app (xs := r), List.append_assoc, List.flatten_cons, List.length_append, Nat.add_assoc]
theorem rpH_len : ∀ {cs : List (List UInt8)} {f : Nat}, (rpH a f cs).length ≤ cs.length
  | [], _ => by simp [rpH]
  | d :: r, f => by
    have := rpH_len (cs := r) (f := f + d.length)
    rw [rpH, List.length_append, List.length_cons]
    split <;> simp <;> omega
theorem rpT_len : ∀ {cs : List (List UInt8)} {f : Nat}, (rpT a f cs).length ≤ cs.length
  | [], _ => by simp [rpT]
  | d :: r, f => by
    have := rpT_len (cs := r) (f := f + d.length)
    rw [rpT, List.length_append, List.length_cons]
    split <;> simp <;> omega
theorem rpL_len : ∀ {cs : List (List UInt8)} {f : Nat}, (rpL a f cs).length ≤ cs.flatten.length
  | [], _ => by simp [rpL]
  | d :: r, f => by
    have := rpL_len (cs := r) (f := f + d.length)
    rw [rpL, List.length_append, List.flatten_cons, List.length_append]
    split <;> simp only [List.length_take, List.length_nil] <;> omega
theorem rpR_len : ∀ {cs : List (List UInt8)} {f : Nat}, (rpR a f cs).length ≤ cs.flatten.length
  | [], _ => by simp [rpR]
  | d :: r, f => by
    have := rpR_len (cs := r) (f := f + d.length)
    rw [rpR, List.length_append, List.flatten_cons, List.length_append]
    split <;> simp only [List.length_drop, List.length_nil] <;> omega
variable {cs : List (List UInt8)} {i : Nat}
theorem rpH_st (h : i < cs.length) : rpH a 0 (cs.take (i + 1)) = rpH a 0 (cs.take i) ++ (if (cs.take i).flatten.length + (cs.getD i []).length ≤ a then [cs.getD i []] else []) := by
  rw [take_one h [], rpH_app, Nat.zero_add, rpH, rpH, List.append_nil]
theorem rpL_st (h : i < cs.length) : rpL a 0 (cs.take (i + 1)) = rpL a 0 (cs.take i) ++ (if (cs.take i).flatten.length < a ∧ a < (cs.take i).flatten.length + (cs.getD i []).length then (cs.getD i []).take (a - (cs.take i).flatten.length) else []) := by
  rw [take_one h [], rpL_app, Nat.zero_add, rpL, rpL, List.append_nil]
theorem rpT_st (h : i < cs.length) : rpT a 0 (cs.take (i + 1)) = rpT a 0 (cs.take i) ++ (if a ≤ (cs.take i).flatten.length then [cs.getD i []] else []) := by
  rw [take_one h [], rpT_app, Nat.zero_add, rpT, rpT, List.append_nil]
theorem rpR_st (h : i < cs.length) : rpR a 0 (cs.take (i + 1)) = rpR a 0 (cs.take i) ++ (if (cs.take i).flatten.length < a ∧ a < (cs.take i).flatten.length + (cs.getD i []).length then (cs.getD i []).drop (a - (cs.take i).flatten.length) else []) := by
  rw [take_one h [], rpR_app, Nat.zero_add, rpR, rpR, List.append_nil]
end
theorem fl_step {cs : List (List UInt8)} {i : Nat} (h : i < cs.length) : (cs.take (i + 1)).flatten.length = (cs.take i).flatten.length + (cs.getD i []).length := by
  rw [take_one h []]; simp
end Go.LX

