/- What the door's row says of the table of the powers of ten is what the walks read. -/
import Derived.Lib.LaidTab
import Derived.Stop.LaidErr
import Derived.Test.YtojaiockbpcilaaDoorRows
import Derived.Test.YtojaiockbpcilaaDoorLvSeat
set_option linter.unusedVariables false
set_option linter.unusedSimpArgs false
set_option maxRecDepth 100000
namespace Go.LX
open Go Go.Proofs Go.Lib
def doorLaid : List (String × DataW Unit) := [("math/bits.deBruijn32tab", Proofs.YtojaiockbpcilaaDoor.Rows.laid_math_bits_deBruijn32tab), ("math/bits.deBruijn64tab", Proofs.YtojaiockbpcilaaDoor.Rows.laid_math_bits_deBruijn64tab), ("internal/strconv.uint64pow10", Proofs.YtojaiockbpcilaaDoor.Rows.laid_internal_strconv_uint64pow10)]
theorem pow_eq : (Proofs.YtojaiockbpcilaaDoor.Rows.laid_internal_strconv_uint64pow10 : DataW Unit) = tabData .u64 pow10Tab := by kernel_rfl
theorem tabs_of {W : World} (hL : laidMet Tryd.prog doorLaid W) : Lib.TabIs Tryd.prog W "internal/strconv.uint64pow10" .u64 pow10Tab := by
  have h := laidMet.tail (laidMet.tail hL)
  rw [pow_eq] at h
  exact tabIs_of_head (g := 2) (t := 148) (e := 128) (n := 20) (by kernel_rfl) (by kernel_rfl) (by kernel_rfl) (by kernel_rfl) (by kernel_rfl) (by kernel_rfl) h
theorem size_of {W : World} {b o : Nat} {v : Value} (h : W.cell? ⟨b, o, none⟩ = some v) : b < W.heap.size := by
  unfold World.cell? at h
  by_cases hb : b < W.heap.size
  · exact hb
  · simp [Array.getElem?_eq_none (Nat.le_of_not_lt hb)] at h
theorem glob_of {W : World} (h : Lib.TabIs Tryd.prog W "internal/strconv.uint64pow10" .u64 pow10Tab) : GlobOK W (fun b => b < W.heap.size) := by
  intro n t xs hn
  match n, hn with
  | 2, hn =>
    have e := Option.some.inj hn
    cases e
    unfold Lib.TabIs World.var? at h
    rw [show Tryd.prog.globalNamed "internal/strconv.uint64pow10" = some 2 by kernel_rfl] at h
    have h : (match W.heap[2]? with | some (Go.Obj.cells cs _ _) => some cs | _ => none) = some (pow10Tab.map fun z => Value.int .u64 z).toArray := h
    split at h
    · rename_i cs e fz hh
      have hcs := Option.some.inj h
      have hat : ∀ i, W.cell? ⟨2, i, none⟩ = (pow10Tab.map fun z => Value.int .u64 z)[i]? := fun i => by
        simp [World.cell?, hh, hcs]
      have hb : 2 < W.heap.size := (Array.getElem?_eq_some_iff.1 hh).1
      refine ⟨⟨2, 0, rfl, fun i x hx => ?_⟩, fun _ => ⟨hb, ?_⟩⟩
      · refine ⟨[.int .u64 x], ⟨hb, fun j u hj => ?_⟩, rfl⟩
        match j, hj with
        | 0, hj =>
          obtain rfl : Value.int .u64 x = u := Option.some.inj hj
          show W.cell? ⟨2, 0 + i * 1 + 0, none⟩ = _
          have hx : pow10Tab[i]? = some x := hx
          rw [show 0 + i * 1 + 0 = i by omega, hat, List.getElem?_map, hx]; rfl
        | j + 1, hj => simp at hj
      · show W.cell? ⟨2, pow10Tab.length * 1, none⟩ = none
        rw [hat, List.getElem?_eq_none (by simp)]
    · cases h
  | 0, hn => cases hn
  | 1, hn => cases hn
  | n + 3, hn => cases hn
end Go.LX
