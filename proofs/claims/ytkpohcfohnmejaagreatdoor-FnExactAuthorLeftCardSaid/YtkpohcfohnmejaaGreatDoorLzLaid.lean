/- What the door's row says of utf8's two tables is what the walks read. -/
import Derived.Lib.LaidU8T
import Derived.PinnedBridge
import Derived.Lib.LaidIn
import Derived.Test.YtkpohcfohnmejaaGreatDoorRows
import Derived.Test.YtkpohcfohnmejaaGreatDoorLzSeat
set_option linter.unusedVariables false
set_option linter.unusedSimpArgs false
set_option maxRecDepth 100000
namespace Go.LX
open Go Go.Proofs Go.Shelf Go.Lib
def ren : Ren := ⟨fun x => x, fun n => if n = 119 then 177 else if n = 138 then 179 else if n = 139 then 180 else n, fun n => n - 3⟩
theorem u8t : U8Types Tryz.prog ren := ⟨by kernel_rfl, by kernel_rfl, by kernel_rfl, by kernel_rfl⟩
theorem u8x : U8Extra Tryz.prog ren := ⟨by kernel_rfl, by kernel_rfl, by kernel_rfl, by kernel_rfl, by kernel_rfl, by kernel_rfl, by kernel_rfl⟩
def doorLaid : List (String × DataW Unit) := [("unicode/utf8.acceptRanges", Proofs.YtkpohcfohnmejaaGreatDoor.Rows.laid_unicode_utf8_acceptRanges), ("unicode/utf8.first", Proofs.YtkpohcfohnmejaaGreatDoor.Rows.laid_unicode_utf8_first)]
theorem acc_eq : (Proofs.YtkpohcfohnmejaaGreatDoor.Rows.laid_unicode_utf8_acceptRanges : DataW Unit) = acceptData := by kernel_rfl
theorem fst_eq : Proofs.YtkpohcfohnmejaaGreatDoor.Rows.laid_unicode_utf8_first = firstData := Pinned.utf8First_eq
theorem tabs_of {W : World} (hL : laidMet Tryz.prog doorLaid W) : Lib.Utf8Tabs 0 1 W :=
  utf8Tabs_of_readsT (ρ := ren) u8t u8x (fst_eq ▸ Lib.laidMet.reads hL (.tail _ (.head _))) (acc_eq ▸ Lib.laidMet.reads hL (.head _))
theorem firstL_T : ∀ i, i < 256 → firstT i = (firstL.getD i 0).toNat := by decide +kernel
theorem accL_T : ∀ i, i < 16 → accLo i = (accL.getD i (0, 0)).1.toNat ∧ accHi i = (accL.getD i (0, 0)).2.toNat := by decide +kernel
theorem size_of {W : World} {b o : Nat} {v : Value} (h : W.cell? ⟨b, o, none⟩ = some v) : b < W.heap.size := by
  unfold World.cell? at h
  by_cases hb : b < W.heap.size
  · exact hb
  · simp [Array.getElem?_eq_none (Nat.le_of_not_lt hb)] at h
theorem glob_of {W : World} (h : Lib.Utf8Tabs 0 1 W) : GlobOK W (fun b => b < W.heap.size) := by
  intro n t xs hn
  match n, hn with
  | 0, hn =>
    have e := Option.some.inj hn
    cases e
    refine ⟨⟨0, 0, rfl, fun i x hx => ?_⟩, fun h => by cases h⟩
    have hi : i < 256 := (List.getElem?_eq_some_iff.1 hx).1
    have hc := h.1 i hi
    have hv : firstT i = x.toNat := by rw [firstL_T i hi, List.getD_eq_getElem?_getD, hx]; rfl
    refine ⟨[.int .u8 (firstT i)], ⟨size_of hc, fun j u hj => ?_⟩, ?_⟩
    · match j, hj with
      | 0, hj =>
        obtain rfl : Value.int .u8 (firstT i) = u := Option.some.inj hj
        show W.cell? ⟨0, 0 + i * 1 + 0, none⟩ = _
        rw [show 0 + i * 1 + 0 = i by omega]; exact hc
      | j + 1, hj => simp at hj
    · show [Value.int .u8 (firstT i : Int)] = [Value.int .u8 (x.toNat : Int)]
      rw [hv]
  | 1, hn =>
    have e := Option.some.inj hn
    cases e
    refine ⟨⟨1, 0, rfl, fun i x hx => ?_⟩, fun h => by cases h⟩
    have hi : i < 16 := (List.getElem?_eq_some_iff.1 hx).1
    obtain ⟨hc, hd⟩ := h.2 i hi
    obtain ⟨hv, hu⟩ := accL_T i hi
    have hg : accL.getD i (0, 0) = x := by rw [List.getD_eq_getElem?_getD, hx]; rfl
    rw [hg] at hv hu
    refine ⟨[.int .u8 (accLo i), .int .u8 (accHi i)], ⟨size_of hc, fun j u hj => ?_⟩, ?_⟩
    · match j, hj with
      | 0, hj =>
        obtain rfl : Value.int .u8 (accLo i) = u := Option.some.inj hj
        show W.cell? ⟨1, 0 + i * 2 + 0, none⟩ = _
        rw [show 0 + i * 2 + 0 = 2 * i by omega]; exact hc
      | 1, hj =>
        obtain rfl : Value.int .u8 (accHi i) = u := Option.some.inj hj
        show W.cell? ⟨1, 0 + i * 2 + 1, none⟩ = _
        rw [show 0 + i * 2 + 1 = 2 * i + 1 by omega]; exact hd
      | j + 2, hj => simp at hj
    · refine ⟨[.int .u8 (accLo i)], [.int .u8 (accHi i)], rfl, ?_, ?_⟩
      · show [Value.int .u8 (accLo i : Int)] = [Value.int .u8 (x.1.toNat : Int)]
        rw [hv]
      · show [Value.int .u8 (accHi i : Int)] = [Value.int .u8 (x.2.toNat : Int)]
        rw [hu]
  | n + 2, hn => cases hn
end Go.LX
