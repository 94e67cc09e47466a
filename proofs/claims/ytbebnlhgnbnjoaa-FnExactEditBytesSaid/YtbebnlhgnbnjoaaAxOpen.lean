/- What a law is handed, as plain data. -/
import Derived.Test.YtbebnlhgnbnjoaaAxNil
import Derived.ChangeSlices
set_option linter.unusedVariables false
set_option linter.unusedSimpArgs false
namespace Go.AX

def RowB (k : IntKind) (w : World) (A : Option Addr) (len cap : Nat) (zs : List Int) : Prop :=
  (A = none ∧ len = 0 ∧ cap = 0 ∧ zs = []) ∨
  ∃ x, A = some x ∧ len ≤ cap ∧ cap ≤ maxLen ∧ zs.length = cap ∧ ∀ i, i < zs.length → w.cell? (x.add i) = some (.int k (zs.getD i 0))

theorem rd_bytes {w : World} {A : Option Addr} {len cap : Nat} {zs : List Int} (h : RowB .u8 w A len cap zs) : Rd w (fun b => b < w.heap.size) (.sl (bD (zs.take len))) (.slice A len cap) := by
  rw [Rd.sl_iff]
  rcases h with ⟨rfl, rfl, rfl, rfl⟩ | ⟨x, rfl, h1, h2, h3, h4⟩
  · exact ⟨none, 0, by simp [bD], by simp [bD], Nat.zero_le _, fun i row hr => by simp [bD] at hr⟩
  · have hl : (bD (zs.take len)).length = len := by rw [bD_len, List.length_take]; omega
    refine ⟨some x, cap, by rw [hl], by rw [hl]; exact h1, h2, fun i row hrow => ?_⟩
    have hi : i < len := by
      have := (List.getElem?_eq_some_iff.1 hrow).1
      omega
    have hiz : i < (zs.take len).length := by rw [List.length_take]; omega
    rw [bD_get hiz] at hrow
    obtain rfl := Option.some.inj hrow
    have hg : (zs.take len).getD i 0 = zs.getD i 0 := by
      simp [List.getD_eq_getElem?_getD, List.getElem?_take, hi]
    rw [hg]
    have hc0 := h4 0 (by omega)
    have hci := h4 i (by omega)
    have hlt := World.block_lt_of_cell? w _ hc0
    have hspot : x.spot = none := by
      have e0 : x.add 0 = x := by simp [Addr.add]
      rw [e0] at hc0
      unfold World.cell? at hc0
      split at hc0
      · cases hs : x.spot with
        | none => rfl
        | some s => rw [hs] at hc0; simp at hc0
      · cases hc0
    obtain ⟨b, o, s⟩ := x
    obtain rfl : s = none := hspot
    refine ⟨b, o, [.int .u8 (zs.getD i 0)], rfl, ⟨?_, fun j u hu => ?_⟩, ⟨Rd.v.2 ⟨rfl, rfl⟩, trivial⟩⟩
    · simpa [Addr.add] using hlt
    · cases j with
      | succ j => simp at hu
      | zero =>
        simp at hu
        subst hu
        rw [addr_add] at hci
        simpa using hci

theorem RowB.take_len {k : IntKind} {w : World} {A : Option Addr} {len cap : Nat} {zs : List Int} (h : RowB k w A len cap zs) : (zs.take len).length ≤ 9223372036854775807 := by
  rcases h with ⟨_, _, _, rfl⟩ | ⟨x, _, h1, h2, h3, _⟩
  · simp
  · rw [List.length_take]
    simp only [maxLen] at h2
    omega

end Go.AX
