/- A part of the proof of the statement in the row text. -/
import Derived.Test.YtkpohcfohnmejaaGreatDoorLzE2
set_option linter.unusedVariables false
set_option linter.unusedSimpArgs false
namespace Go.LX
open Go.Proofs
attribute [local irreducible] W WO OpW RW EndQ
abbrev TCh : Ty := .sl .u8
abbrev aChs (cs : List (List UInt8)) : SA := .c (.d (.sl TCh) cs)
abbrev sChs (cs : List (List UInt8)) : S0 := .d (.sl TCh) cs
noncomputable def okCh (d : List UInt8) : Bool := decide (1 ≤ (d.length : Int)) && decide ((d.length : Int) ≤ 16) && tokM d
noncomputable def chK : List (List UInt8) → Int → Bool
  | [], _ => true
  | d :: l, n => okCh d && (!decide (400 < n + (d.length : Int)) && chK l (n + d.length))
theorem okCh_len {d : List UInt8} (h : okCh d = true) : d.length ≤ 16 := by
  simp only [okCh, Bool.and_eq_true, decide_eq_true_eq] at h
  omega
theorem chK_len : ∀ {l : List (List UInt8)} {n : Int}, chK l n = true → 0 ≤ n → n ≤ 400 → n + l.flatten.length ≤ 400
  | [], n, h, h0, hn => by simpa using hn
  | d :: l, n, h, h0, hn => by
    simp only [chK, Bool.and_eq_true, Bool.not_eq_true', decide_eq_false_iff_not] at h
    have := chK_len h.2.2 (by omega) (by omega)
    simp only [List.flatten_cons, List.length_append]
    omega
/-- What chunks hold, if they are right. -/
noncomputable def chT (cs : List (List UInt8)) : List UInt8 := if chK cs 0 = true then cs.flatten else []
theorem chT_len {cs : List (List UInt8)} : (chT cs).length ≤ 400 := by
  unfold chT
  split
  · rename_i h; have := chK_len h (by decide) (by decide); omega
  · simp
theorem flat_take {cs : List (List UInt8)} {i : Nat} : (cs.take i).flatten.length ≤ cs.flatten.length := by
  have : cs.flatten.length = (cs.take i).flatten.length + (cs.drop i).flatten.length := by
    rw [← List.length_append, ← List.flatten_append, List.take_append_drop]
  omega
theorem take_one {α : Type} {xs : List α} {i : Nat} (h : i < xs.length) (d : α) : xs.take (i + 1) = xs.take i ++ [xs.getD i d] := by
  rw [List.take_add_one, List.getD_eq_getElem?_getD, List.getElem?_eq_getElem h]; rfl
end Go.LX

set_option linter.unusedVariables false
set_option linter.unusedSimpArgs false
namespace Go.LX
open Go.Proofs
attribute [local irreducible] W WO OpW RW EndQ
/-- From a on there is text. -/
def chOK (xs : List UInt8) (a : Int) : Prop := (0 ≤ a ∧ a ≤ xs.length) ∧ ∃ f l, ctM xs f a = some l
theorem tok_ch {xs : List UInt8} (h : tokM xs = true) : chOK xs 0 := by
  refine ⟨⟨Int.le_refl _, by omega⟩, xs.length + 1, ?_⟩
  have h1 := of_decide_eq_true h
  have h4 := tokM_len h
  rw [cuL, if_neg (by omega)] at h1
  cases h2 : ctM xs (xs.length + 1) 0 with
  | none => rw [h2] at h1; simp at h1
  | some l => exact ⟨l, rfl⟩
theorem chOK_next {xs : List UInt8} {a : Int} (hl : xs.length ≤ 16777216) (h : chOK xs a) (ha : a < xs.length) : 0 < rsM xs a ∧ rsM xs a ≤ 4 ∧ chOK xs (a + rsM xs a) := by
  obtain ⟨hb, f, l, h⟩ := h
  obtain ⟨⟨b1, b2⟩, b3⟩ := rsM_b (xs := xs) (a := a) hl
  cases f with
  | zero => cases h
  | succ f =>
    rw [show ctM xs (f + 1) a = if a < xs.length then (if rsM xs a = 0 then none else (ctM xs f (a + rsM xs a)).map (a :: ·)) else some [a] from rfl, if_pos ha] at h
    split at h
    · cases h
    · rename_i hz
      obtain ⟨l', hl', rfl⟩ := Option.map_eq_some_iff.1 h
      have b4 := b3 (by omega)
      exact ⟨by omega, b2, ⟨by omega, by omega⟩, f, l', hl'⟩
/-- Where the chunk that begins at a ends. -/
noncomputable def ceM (xs : List UInt8) (a : Int) : Nat → Int → Int
  | 0, e => e
  | f + 1, e => if e < xs.length ∧ e + rsM xs e - a ≤ 16 then ceM xs a f (e + rsM xs e) else e
theorem ceM_ok {xs : List UInt8} {a : Int} (hl : xs.length ≤ 16777216) : ∀ {f : Nat} {e : Int}, chOK xs e → a ≤ e → chOK xs (ceM xs a f e) ∧ e ≤ ceM xs a f e
  | 0, e, h, _ => ⟨h, Int.le_refl _⟩
  | f + 1, e, h, ha => by
    unfold ceM
    split
    · rename_i hc
      obtain ⟨b1, b2, b3⟩ := chOK_next hl h hc.1
      obtain ⟨i1, i2⟩ := ceM_ok (a := a) hl (f := f) b3 (by omega)
      exact ⟨i1, by omega⟩
    · exact ⟨h, Int.le_refl _⟩
theorem ceM_gt {xs : List UInt8} {a : Int} (hl : xs.length ≤ 16777216) {f : Nat} (h : chOK xs a) (ha : a < xs.length) : a < ceM xs a (f + 1) a := by
  obtain ⟨b1, b2, b3⟩ := chOK_next hl h ha
  unfold ceM
  rw [if_pos ⟨ha, by omega⟩]
  have := (ceM_ok hl (f := f) b3 (a := a) (by omega)).2
  omega
noncomputable def coM (xs : List UInt8) : Nat → Int → List (List UInt8)
  | 0, _ => []
  | f + 1, a => if a < xs.length then cut (some a) (some (ceM xs a (xs.length + 1) a)) xs :: coM xs f (ceM xs a (xs.length + 1) a) else []
theorem coM_len {xs : List UInt8} : ∀ {f : Nat} {a : Int}, (coM xs f a).length ≤ f
  | 0, _ => by simp [coM]
  | f + 1, a => by
    unfold coM
    split
    · have := coM_len (xs := xs) (f := f) (a := ceM xs a (xs.length + 1) a)
      simp only [List.length_cons]; omega
    · simp
theorem cut_le2 {α : Type} (lo hi : Option Int) (xs : List α) : (cut lo hi xs).length ≤ xs.length := by
  unfold cut
  split <;> simp <;> omega
theorem coM_mem {xs : List UInt8} : ∀ {f : Nat} {a : Int}, ∀ d ∈ coM xs f a, d.length ≤ xs.length
  | 0, _, d, h => by simp [coM] at h
  | f + 1, a, d, h => by
    unfold coM at h
    split at h
    · rcases List.mem_cons.1 h with rfl | h
      · exact cut_le2 _ _ _
      · exact coM_mem d h
    · simp at h
noncomputable def chunksM (xs : List UInt8) : List (List UInt8) := if tokM xs = true then coM xs (xs.length + 1) 0 else []
theorem chunksM_len {xs : List UInt8} : (chunksM xs).length ≤ xs.length + 1 := by
  unfold chunksM
  split
  · exact coM_len
  · simp
theorem chunksM_mem {xs : List UInt8} : ∀ d ∈ chunksM xs, d.length ≤ xs.length := by
  unfold chunksM
  split
  · exact coM_mem
  · simp
end Go.LX

