/- FnStackSaved holds: edits and stacks are decoded from their encoding at any offset, for every code. -/
import Derived.Test.YtojaiockbpcilaaRows
import Derived.Test.YtojaiockbpcilaaLyJ6
import Derived.Test.YtojaiockbpcilaaLxOpen
import Derived.ChangeSlices
import Derived.WalkKit
import Derived.ProofKit
import Derived.OpenShut
import Derived.ShutString
import Derived.ChangeOld
import Derived.Below
import Derived.SizedLaws
set_option linter.unusedVariables false
set_option linter.unusedSimpArgs false
namespace Go.Proofs.Ytojaiockbpcilaa.fnStackSaved
open Go.ChangeShapes Go.WideShapes Go.ChangeAt Go.RowKit
theorem own : ownKnob Try.prog.godebug = none := by kernel_rfl
theorem laidOut : laidOutB Try.prog = true := by kernel_rfl
set_option maxRecDepth 100000 in
theorem lifted (os : Os) (started : os.Started) (H : Type) (enc : TypeId × Value → H) :
    ReturnsInHanded {} Try.checked os 6 .any (Rows.fnStackSavedSpec.pre6 enc Try.prog Try.f6 Rows.fnStackSavedRow.domain false) (Rows.fnStackSavedSpec.post enc Try.prog Try.f6 false true false false) := by
  refine returnsInHanded_of_change_sized (C := Try.checked) own started (by kernel_rfl) Try.func6
    (ChangeSpec.witness6 (enc := enc) (C := Try.checked) false ⟨#[], #[.slice none 0 0], []⟩ 8 (by kernel_rfl) (by kernel_rfl) (by kernel_rfl) (by kernel_rfl)) ?_
  intro W base args ds gs before hval0 hW hcnd hsz0 _
  have hW' := hW
  have hval : ∀ (j : Nat) t v, Try.f6.params[j]? = some t → args[j]? = some v → Value.okWide Try.prog W .any base t v := hval0
  obtain ⟨p, q, hA0, hV, rfl, hfz, hnd⟩ := hW
  have hA : DataW.TrodAll enc Try.prog W 0 (fun _ => true) true Try.f6.params.toList args.toList ds p := hA0
  rw [Try.params6] at hA hval
  obtain ⟨v0, vs0, d0, ds0, p0, q0, hargs, rfl, rfl, h0, r0⟩ := trodAll_cons hA
  obtain ⟨rfl, rfl, rfl⟩ := trodAll_nil r0
  obtain rfl : args = #[v0] := by cases args; simp_all
  obtain ⟨rfl, rfl⟩ := trodVars_none hV
  have k0 := h0
  have lt0 : ∀ x ∈ p0, x.block < W.heap.size := by obtain ⟨m, hm⟩ := k0; exact DataW.trod_lt m _ _ _ hm
  obtain ⟨y0, wf0, a0⟩ := Go.LX.open_c (n := 9) (t := (.sl .u8)) (by kernel_rfl) (Go.LX.one_slice Try.underlying22 (hval 0 22 v0 rfl rfl)) h0
  refine (Go.LX.lawSS_ok y0 wf0 W (fun b => b < W.heap.size) [v0] [] [] ⟨fun _ h => h, fun _ _ _ h => by cases h⟩ ⟨[], [], [], [], rfl, rfl, a0, rfl, rfl⟩ (by simp) (fun b hb => by simp at hb)).mono fun e W' he => ?_
  obtain ⟨v, rfl, hfc, I', L', Lr, _, _, _, hres, _, _⟩ := he
  have bel : Go.RowKit.Below W.heap.size W W' := ⟨hfc.os, hfc.tape, hfc.output, hfc.size, fun b hb => hfc.old b hb (by simp) (by simp)⟩
  obtain ⟨u, hu, _, hr⟩ := Go.LX.Rows.single.1 hres.2
  have hv : v = .bool true := by
    have h1 : v.oneCell' = true := hres.1
    rw [Go.LX.val_one h1] at hu
    have h2 : [u] = [Value.bool true] := hr
    simp at hu h2
    rw [hu, h2]
  subst hv
  exact ⟨_, rfl, _, _, _, [], _, [], hW', trodAll_mk1 (shut_bool Try.underlying4 _), (trodAll_cons_mk (Below.trod laidOut (by kernel_rfl) (of_decide_eq_true (by kernel_rfl)) k0 bel lt0) trodAll_mk0), rfl, bel.frame _, fun h => by cases h⟩
theorem over : Rows.fnStackSavedRow.holds Try.pinned (OpenSpec.ofChange Rows.fnStackSavedSpec) :=
  OpenClaim.holds_of_wide 6 Try.f6 rfl rfl rfl rfl rfl rfl rfl ⟨rfl, rfl, rfl, rfl, rfl⟩ rfl rfl rfl rfl rfl (by kernel_rfl) Try.func6 (by kernel_rfl)
    (of_decide_eq_true (by kernel_rfl)) (by unfold Func.isWrapper; first | (rw [if_pos (by decide +kernel)]; kernel_rfl) | (rw [if_neg (by decide +kernel)]; exact ⟨rfl, rfl⟩))
    (fun os started H enc _ => lifted os started H enc)
theorem proved : Rows.FnStackSavedSaid := over
end Go.Proofs.Ytojaiockbpcilaa.fnStackSaved
namespace Go.Proofs.Ytojaiockbpcilaa
/-- The row, under a short name, for the claim. -/
theorem fnStackSaved_holds : Rows.FnStackSavedSaid := fnStackSaved.proved
#print axioms fnStackSaved_holds
end Go.Proofs.Ytojaiockbpcilaa
