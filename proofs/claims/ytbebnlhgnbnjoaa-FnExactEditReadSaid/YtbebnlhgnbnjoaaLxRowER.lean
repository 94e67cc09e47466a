/- For all bytes and every place EditRead returns what the reference's EditRead returns, leaves its argument as it was, and returns memory of its own. -/
import Derived.Test.YtbebnlhgnbnjoaaRows
import Derived.Test.YtbebnlhgnbnjoaaLxR9
import Derived.ChangeSlices
import Derived.WalkKit
import Derived.ProofKit
import Derived.OpenShut
import Derived.ShutString
import Derived.ChangeOld
import Derived.Below
import Derived.SizedLaws
set_option linter.unusedVariables false
set_option linter.unusedSimpArgs false
namespace Go.Proofs.Ytbebnlhgnbnjoaa.fnExactEditRead
open Go.ChangeShapes Go.WideShapes Go.ChangeAt Go.RowKit
theorem own : ownKnob Try.prog.godebug = none := by kernel_rfl
theorem laidOut : laidOutB Try.prog = true := by kernel_rfl

theorem rt_bytes {w : World} {A : Option Addr} {len cap : Nat} {zs : List Int} (h : (A = none ∧ len = 0 ∧ cap = 0 ∧ zs = []) ∨ ∃ x, A = some x ∧ len ≤ cap ∧ cap ≤ maxLen ∧ zs.length = cap ∧ (∀ i, i < zs.length → w.cell? (x.add i) = some (.int .u8 (zs.getD i 0))) ∧ ∀ n ∈ zs, 0 ≤ n ∧ n < 256) :
    Go.LX.RT w (fun b => b < w.heap.size) (.sl .u8) ((zs.take len).map Go.LX.toB) [.slice A len cap] := by
  rcases h with ⟨rfl, rfl, rfl, rfl⟩ | ⟨x, rfl, h1, h2, h3, h4, h5⟩
  · exact ⟨none, 0, rfl, Nat.le_refl _, Nat.zero_le _, fun i x hx => by simp at hx⟩
  · have hl : ((zs.take len).map Go.LX.toB).length = len := by simp; omega
    refine ⟨some x, cap, by rw [hl], by rw [hl]; exact h1, h2, fun i y hy => ?_⟩
    have hi : i < len := by have := (List.getElem?_eq_some_iff.1 hy).1; omega
    have hiz : i < zs.length := by omega
    have hy' : y = Go.LX.toB (zs.getD i 0) := by
      simp [List.getElem?_take, hi, hiz] at hy
      rw [← hy]
      simp [List.getD_eq_getElem?_getD, hiz]
    have hr := h5 (zs.getD i 0) (by simp [List.getD_eq_getElem?_getD, hiz])
    have hc0 := h4 0 (by omega)
    have hci := h4 i (by omega)
    have hlt := World.block_lt_of_cell? w _ hc0
    have hspot : x.spot = none := by
      have e0 : x.add 0 = x := by simp [Addr.add]
      rw [e0] at hc0
      unfold World.cell? at hc0
      split at hc0
      · cases hs : x.spot with
        | none => rfl
        | some s => rw [hs] at hc0; simp at hc0
      · cases hc0
    obtain ⟨b, o, s⟩ := x
    obtain rfl : s = none := hspot
    have hv : ((y.toNat : Nat) : Int) = zs.getD i 0 := by rw [hy']; exact Go.LX.toB_of hr.1 hr.2
    refine ⟨b, o, [.int .u8 (zs.getD i 0)], rfl, ⟨by simpa [Addr.add] using hlt, fun j u hu => ?_⟩, ?_⟩
    · cases j with
      | succ j => simp at hu
      | zero =>
        simp at hu
        subst hu
        rw [Go.LX.addr_add] at hci
        simpa [Go.LX.Ty.w] using hci
    · show [_] = [Value.int .u8 ((y.toNat : Nat) : Int)]
      rw [hv]
set_option maxRecDepth 100000 in
theorem open_bytes {b0 : Nat} {H : Type} {enc : TypeId × Value → H} {W : World} {v : Value} {d : DataW H} {ps : List MemPlace} (hok : Value.okWide Try.prog W .any b0 31 v) (h : DataW.Trod enc Try.prog W 0 (fun _ => true) true 31 v d ps) :
    ∃ xs : List UInt8, Go.LX.RT W (fun b => b < W.heap.size) (.sl .u8) xs [v] := by
  obtain ⟨fuel, hf⟩ := h
  obtain ⟨a0, len0, cap0, rfl⟩ := okWide_slice Try.underlying31 hok
  have hf' : DataW.trod enc Try.prog W 0 (fun _ => true) true fuel 31 [.slice a0 len0 cap0] = some (d, ps) := hf
  rcases open_ints Try.underlying31 Try.underlying5 (by kernel_rfl) hf' with ⟨h2, _⟩ | ⟨x, l, c, zs, h2, _, hlc, hm, hz, _, hcell, hwf⟩
  · simp only [List.cons.injEq, and_true] at h2
    rw [h2]
    exact ⟨_, rt_bytes (zs := []) (.inl ⟨rfl, rfl, rfl, rfl⟩)⟩
  · simp only [List.cons.injEq, and_true] at h2
    rw [h2]
    refine ⟨_, rt_bytes (.inr ⟨x, rfl, hlc, hm, by simpa using hz, hcell, fun n hn => ?_⟩)⟩
    have := hwf n hn
    simp [Lit.wf, IntKind.min, IntKind.max, IntKind.signed, IntKind.bits] at this
    omega
set_option maxRecDepth 100000 in
theorem open_int {b0 : Nat} {H : Type} {enc : TypeId × Value → H} {W : World} {v : Value} {d : DataW H} {ps : List MemPlace} (hok : Value.okWide Try.prog W .any b0 3 v) (h : DataW.Trod enc Try.prog W 0 (fun _ => true) true 3 v d ps) : ∃ n : Int, v = .int .i64 n := by
  obtain ⟨n, rfl⟩ := okWide_int Try.underlying3 hok
  exact ⟨n, rfl⟩

set_option maxRecDepth 100000 in
theorem lifted (os : Os) (started : os.Started) (H : Type) (enc : TypeId × Value → H) :
    ReturnsInHanded {} Try.checked os 5 .any (Rows.fnExactEditReadSpec.pre6 enc Try.prog Try.f5 Rows.fnExactEditReadRow.domain false) (Rows.fnExactEditReadSpec.post enc Try.prog Try.f5 false true false false) := by
  refine returnsInHanded_of_change_sized (C := Try.checked) own started (by kernel_rfl) Try.func5
    (ChangeSpec.witness6 (enc := enc) (C := Try.checked) false ⟨#[], #[.slice none 0 0, .int .i64 0], []⟩ 8 (by kernel_rfl) (by kernel_rfl) (by kernel_rfl) (by kernel_rfl)) ?_
  intro W base args ds gs before hval0 hW hcnd hsz0 _
  have hW' := hW
  have hval : ∀ (j : Nat) t v, Try.f5.params[j]? = some t → args[j]? = some v → Value.okWide Try.prog W .any base t v := hval0
  obtain ⟨p, q, hA0, hV, rfl, hfz, hnd⟩ := hW
  have hA : DataW.TrodAll enc Try.prog W 0 (fun _ => true) true Try.f5.params.toList args.toList ds p := hA0
  rw [Try.params5] at hA hval
  obtain ⟨v0, vs0, d0, ds0, p0, q0, hargs, rfl, rfl, h0, r0⟩ := trodAll_cons hA
  obtain ⟨v1, vs1, d1, ds1, p1, q1, hargs1, rfl, rfl, h1, r1⟩ := trodAll_cons r0
  obtain ⟨rfl, rfl, rfl⟩ := trodAll_nil r1
  subst hargs1
  obtain rfl : args = #[v0, v1] := by cases args; simp_all
  obtain ⟨rfl, rfl⟩ := trodVars_none hV
  have k0 := h0
  have k1 := h1
  have lt0 : ∀ x ∈ p0, x.block < W.heap.size := by obtain ⟨m, hm⟩ := k0; exact DataW.trod_lt m _ _ _ hm
  have lt1 : ∀ x ∈ p1, x.block < W.heap.size := by obtain ⟨m, hm⟩ := k1; exact DataW.trod_lt m _ _ _ hm
  obtain ⟨xs, hxs⟩ := open_bytes (hval 0 31 v0 rfl rfl) h0
  obtain ⟨a, rfl⟩ := open_int (hval 1 3 v1 rfl rfl) h1
  refine (Go.LX.law_ok xs a W (fun b => b < W.heap.size) [v0, .int .i64 a] [] [] (fun _ h => h) ⟨[], [], [], [], rfl, rfl, ⟨rfl, rfl, hxs⟩, [], [], [], [], rfl, rfl, ⟨rfl, rfl, rfl⟩, rfl, rfl⟩ (by simp) (fun b hb => by simp at hb)).mono fun e W' he => ?_
  obtain ⟨v, rfl, hfc, I', L', Lr, _, _, _, hres, _, _⟩ := he
  have bel : Go.RowKit.Below W.heap.size W W' := ⟨hfc.os, hfc.tape, hfc.output, hfc.size, fun b hb => hfc.old b hb (by simp) (by simp)⟩
  obtain ⟨u, hu, _, hr⟩ := Go.LX.Rows.single.1 hres.2
  have hv : v = .bool true := by
    have h1 : v.oneCell' = true := hres.1
    rw [Go.LX.val_one h1] at hu
    have h2 : [u] = [Value.bool true] := hr
    simp at hu h2
    rw [hu, h2]
  subst hv
  exact ⟨_, rfl, _, _, _, [], _, [], hW', trodAll_mk1 (shut_bool Try.underlying4 _), (trodAll_cons_mk (Below.trod laidOut (by kernel_rfl) (of_decide_eq_true (by kernel_rfl)) k0 bel lt0) (trodAll_cons_mk (Below.trod laidOut (by kernel_rfl) (of_decide_eq_true (by kernel_rfl)) k1 bel lt1) trodAll_mk0)), rfl, bel.frame _, fun h => by cases h⟩
theorem over : Rows.fnExactEditReadRow.holds Try.pinned (OpenSpec.ofChange Rows.fnExactEditReadSpec) :=
  OpenClaim.holds_of_wide 5 Try.f5 rfl rfl rfl rfl rfl rfl rfl ⟨rfl, rfl, rfl, rfl, rfl⟩ rfl rfl rfl rfl rfl (by kernel_rfl) Try.func5 (by kernel_rfl)
    (of_decide_eq_true (by kernel_rfl)) (by unfold Func.isWrapper; first | (rw [if_pos (by decide +kernel)]; kernel_rfl) | (rw [if_neg (by decide +kernel)]; exact ⟨rfl, rfl⟩))
    (fun os started H enc _ => lifted os started H enc)
theorem proved : Rows.FnExactEditReadSaid := over
end Go.Proofs.Ytbebnlhgnbnjoaa.fnExactEditRead
namespace Go.Proofs.Ytbebnlhgnbnjoaa
/-- The row, under a short name, for the claim. -/
theorem fnExactEditRead_holds : Rows.FnExactEditReadSaid := fnExactEditRead.proved
#print axioms fnExactEditRead_holds
end Go.Proofs.Ytbebnlhgnbnjoaa
