/- The law FnRopeText. -/
import Derived.Test.YtkpohcfohnmejaaDoorRows
import Derived.Test.YtkpohcfohnmejaaDoorLzUJ
import Derived.Test.YtkpohcfohnmejaaDoorLxOpen
import Derived.ChangeSlices
import Derived.WalkKit
import Derived.ProofKit
import Derived.OpenShut
import Derived.ShutString
import Derived.ChangeOld
import Derived.Below
import Derived.SizedLaws
import Derived.Lay
import Derived.LaidOnce
import Derived.SevenTiedAt
import Derived.Test.YtkpohcfohnmejaaDoorLzLaid
import Derived.Test.YtkpohcfohnmejaaDoorCards
import Derived.Test.YtkpohcfohnmejaaDoorTie
set_option linter.unusedVariables false
set_option linter.unusedSimpArgs false
namespace Go.Proofs.YtkpohcfohnmejaaDoor.fnRopeText
open Go.ChangeShapes Go.WideShapes Go.ChangeAt Go.RowKit
theorem own : ownKnob Tryd.prog.godebug = none := by kernel_rfl
theorem laidOut : laidOutB Tryd.prog = true := by kernel_rfl
set_option maxRecDepth 100000 in
theorem lifted (os : Os) (started : os.Started) (H : Type) (enc : TypeId × Value → H) :
    ReturnsInHanded {} Tryd.checked os 6 .any (fun w args => (Rows.fnRopeTextSpec.pre enc Tryd.prog Tryd.f6 [] false w args ∧ laidMetH Tryd.prog Rows.fnRopeTextRow.laid w) ∧ sizedMet enc Tryd.prog Tryd.f6 (OpenSpec.ofChange Rows.fnRopeTextSpec) false w args) (Rows.fnRopeTextSpec.post enc Tryd.prog Tryd.f6 false true false false) := by
  refine returnsInHanded_of_change_and (C := Tryd.checked) (X := fun w _ => laidMetH Tryd.prog Rows.fnRopeTextRow.laid w) (fun _ _ _ hh h => h.of_heap hh) own started (by kernel_rfl) Tryd.func6
    (ChangeSpec.witness_shaped (enc := enc) (C := Tryd.checked) (os := os) (X := fun w _ => laidMetH Tryd.prog Rows.fnRopeTextRow.laid w) false (World.laidAll Tryd.prog os Rows.fnRopeTextRow.laid) #[.slice none 0 0] 8 (World.laidAll_os _ _ _)
      (World.shaped_of_ZipB (by kernel_rfl) (by kernel_rfl)) (by kernel_rfl) (by kernel_rfl) (by kernel_rfl)
      (by rw [MakeChecks.laidMetH_plain _ _ _ (by kernel_rfl)]; exact laidMet_laidAll _ (by kernel_rfl) (by kernel_rfl))) ?_
  intro W base args ds gs before hval0 hW _ _ hL _
  rw [MakeChecks.laidMetH_plain _ _ _ (by kernel_rfl)] at hL
  have gl := Go.LX.glob_of (Go.LX.tabs_of hL)
  have hW' := hW
  have hval : ∀ (j : Nat) t v, Tryd.f6.params[j]? = some t → args[j]? = some v → Value.okWide Tryd.prog W .any base t v := hval0
  obtain ⟨p, q, hA0, hV, rfl, hfz, hnd⟩ := hW
  have hA : DataW.TrodAll enc Tryd.prog W 0 (fun _ => true) true Tryd.f6.params.toList args.toList ds p := hA0
  rw [Tryd.params6] at hA hval
  obtain ⟨v0, vs0, d0, ds0, p0, q0, hargs, rfl, rfl, h0, r0⟩ := trodAll_cons hA
  obtain ⟨rfl, rfl, rfl⟩ := trodAll_nil r0
  obtain rfl : args = #[v0] := by cases args; simp_all
  obtain ⟨rfl, rfl⟩ := trodVars_none hV
  have k0 := h0
  have lt0 : ∀ x ∈ p0, x.block < W.heap.size := by obtain ⟨m, hm⟩ := k0; exact DataW.trod_lt m _ _ _ hm
  obtain ⟨y0, wf0, a0⟩ := Go.LX.open_c (n := 9) (t := (.sl .u8)) (by kernel_rfl) (Go.LX.one_slice Tryd.underlying25 (hval 0 25 v0 rfl rfl)) h0
  refine (Go.LX.lawRT_ok y0 wf0 W (fun b => b < W.heap.size) [v0] [] [] ⟨fun _ h => h, gl⟩ ⟨[], [], [], [], rfl, rfl, a0, rfl, rfl⟩ (by simp) (fun b hb => by simp at hb)).mono fun e W' he => ?_
  obtain ⟨v, rfl, hfc, I', L', Lr, _, _, _, hres, _, _⟩ := he
  have bel : Go.RowKit.Below W.heap.size W W' := ⟨hfc.os, hfc.tape, hfc.output, hfc.size, fun b hb => hfc.old b hb (by simp) (by simp)⟩
  obtain ⟨u, hu, _, hr⟩ := Go.LX.Rows.single.1 hres.2
  have hv : v = .bool true := by
    have h1 : v.oneCell' = true := hres.1
    rw [Go.LX.val_one h1] at hu
    have h2 : [u] = [Value.bool true] := hr
    simp at hu h2
    rw [hu, h2]
  subst hv
  exact ⟨_, rfl, _, _, _, [], _, [], hW', trodAll_mk1 (shut_bool Tryd.underlying4 _), (trodAll_cons_mk (Below.trod laidOut (by kernel_rfl) (of_decide_eq_true (by kernel_rfl)) k0 bel lt0) trodAll_mk0), rfl, bel.frame _, fun h => by cases h⟩
theorem over : Rows.fnRopeTextRow.holds Tryd.pinned (OpenSpec.ofChange Rows.fnRopeTextSpec) :=
  OpenClaim.holds_of_wide 6 Tryd.f6 rfl rfl rfl rfl rfl rfl rfl ⟨rfl, rfl, rfl, rfl, rfl⟩ rfl rfl rfl rfl rfl (by kernel_rfl) Tryd.func6 (by kernel_rfl)
    (of_decide_eq_true (by kernel_rfl)) (by unfold Func.isWrapper; first | (rw [if_pos (by decide +kernel)]; kernel_rfl) | (rw [if_neg (by decide +kernel)]; exact ⟨rfl, rfl⟩))
    (fun os started H enc _ => lifted os started H enc)
theorem proved : Rows.FnRopeTextSaid := over
end Go.Proofs.YtkpohcfohnmejaaDoor.fnRopeText
namespace Go.Proofs.YtkpohcfohnmejaaDoor
/-- The row, under a short name, for the claim. -/
theorem fnRopeText_holds : Rows.FnRopeTextSaid := fnRopeText.proved
theorem fnRopeText_card : Rows.FnRopeTextCardSaid :=
  Claim7.holds_tied_plain_at .later [] [.data, .pinned] true (true, "e8917d82f5d71eb0570c549a08db48d016afca06d7f465ef9dcb6aa30e7247b6") false fnRopeText_holds (fun _ h => by cases h) (by kernel_rfl) (fun _ h => by cases h) fnRopeText_row_tie rfl ⟨rfl, rfl⟩ (by kernel_rfl) rfl
    (fun f fn hf hfn => by
      obtain rfl : f = 6 := Option.some.inj ((show Tryd.prog.funcNamed "loop.example/g00677/laws.FnRopeText" = some 6 by kernel_rfl).symm.trans hf) |>.symm
      obtain rfl : fn = Tryd.f6 := (Option.some.inj (Tryd.func6.symm.trans hfn)).symm
      exact ⟨by kernel_rfl, fun j t ht => by
        rw [Tryd.params6] at ht
        have hm : t ∈ [25] := by simpa using Array.mem_of_getElem? ht
        have hall : ([25].all fun u => !Tryd.prog.wantsStandIn u) = true := by kernel_rfl
        exact (show Tryd.prog.wantsStandIn t = false by simpa using List.all_eq_true.1 hall t hm)⟩)
    (by kernel_rfl)
#print axioms fnRopeText_card
#print axioms fnRopeText_holds
end Go.Proofs.YtkpohcfohnmejaaDoor
