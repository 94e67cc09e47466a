/- The law FnExactAuthorLeft. -/
import Derived.Test.YtkpohcfohnmejaaGreatDoorRows
import Derived.Test.YtkpohcfohnmejaaGreatDoorLzPA
import Derived.Test.YtkpohcfohnmejaaGreatDoorLxOpen
import Derived.ChangeSlices
import Derived.WalkKit
import Derived.ProofKit
import Derived.OpenShut
import Derived.ShutString
import Derived.ChangeOld
import Derived.Below
import Derived.SizedLaws
import Derived.Lay
import Derived.LaidOnce
import Derived.SevenTiedAt
import Derived.Test.YtkpohcfohnmejaaGreatDoorLzLaid
import Derived.Test.YtkpohcfohnmejaaGreatDoorCards
import Derived.Test.YtkpohcfohnmejaaGreatDoorTie
set_option linter.unusedVariables false
set_option linter.unusedSimpArgs false
namespace Go.Proofs.YtkpohcfohnmejaaGreatDoor.fnExactAuthorLeft
open Go.ChangeShapes Go.WideShapes Go.ChangeAt Go.RowKit
theorem own : ownKnob Tryz.prog.godebug = none := by kernel_rfl
theorem laidOut : laidOutB Tryz.prog = true := by kernel_rfl
set_option maxRecDepth 100000 in
theorem lifted (os : Os) (started : os.Started) (H : Type) (enc : TypeId × Value → H) :
    ReturnsInHanded {} Tryz.checked os 4 .any (fun w args => (Rows.fnExactAuthorLeftSpec.pre enc Tryz.prog Tryz.f4 [] false w args ∧ laidMetH Tryz.prog Rows.fnExactAuthorLeftRow.laid w) ∧ sizedMet enc Tryz.prog Tryz.f4 (OpenSpec.ofChange Rows.fnExactAuthorLeftSpec) false w args) (Rows.fnExactAuthorLeftSpec.post enc Tryz.prog Tryz.f4 false true false false) := by
  refine returnsInHanded_of_change_and (C := Tryz.checked) (X := fun w _ => laidMetH Tryz.prog Rows.fnExactAuthorLeftRow.laid w) (fun _ _ _ hh h => h.of_heap hh) own started (by kernel_rfl) Tryz.func4
    (ChangeSpec.witness_shaped (enc := enc) (C := Tryz.checked) (os := os) (X := fun w _ => laidMetH Tryz.prog Rows.fnExactAuthorLeftRow.laid w) false (World.laidAll Tryz.prog os Rows.fnExactAuthorLeftRow.laid) #[.agg #[.slice none 0 0, .slice none 0 0, .slice none 0 0, .int .i64 0, .slice none 0 0, .slice none 0 0], .int .i64 0] 8 (World.laidAll_os _ _ _)
      (World.shaped_of_ZipB (by kernel_rfl) (by kernel_rfl)) (by kernel_rfl) (by kernel_rfl) (by kernel_rfl)
      (by rw [MakeChecks.laidMetH_plain _ _ _ (by kernel_rfl)]; exact laidMet_laidAll _ (by kernel_rfl) (by kernel_rfl))) ?_
  intro W base args ds gs before hval0 hW _ _ hL _
  rw [MakeChecks.laidMetH_plain _ _ _ (by kernel_rfl)] at hL
  have gl := Go.LX.glob_of (Go.LX.tabs_of hL)
  have hW' := hW
  have hval : ∀ (j : Nat) t v, Tryz.f4.params[j]? = some t → args[j]? = some v → Value.okWide Tryz.prog W .any base t v := hval0
  obtain ⟨p, q, hA0, hV, rfl, hfz, hnd⟩ := hW
  have hA : DataW.TrodAll enc Tryz.prog W 0 (fun _ => true) true Tryz.f4.params.toList args.toList ds p := hA0
  rw [Tryz.params4] at hA hval
  obtain ⟨v0, vs0, d0, ds0, p0, q0, hargs, rfl, rfl, h0, r0⟩ := trodAll_cons hA
  obtain ⟨v1, vs1, d1, ds1, p1, q1, hargs1, rfl, rfl, h1, r1⟩ := trodAll_cons r0
  obtain ⟨rfl, rfl, rfl⟩ := trodAll_nil r1
  subst hargs1
  obtain rfl : args = #[v0, v1] := by cases args; simp_all
  obtain ⟨rfl, rfl⟩ := trodVars_none hV
  have k0 := h0
  have k1 := h1
  have lt0 : ∀ x ∈ p0, x.block < W.heap.size := by obtain ⟨m, hm⟩ := k0; exact DataW.trod_lt m _ _ _ hm
  have lt1 : ∀ x ∈ p1, x.block < W.heap.size := by obtain ⟨m, hm⟩ := k1; exact DataW.trod_lt m _ _ _ hm
  obtain ⟨y0, wf0, a0⟩ := Go.LX.open_ag (n := 9) (t := Go.LX.TDc) (by kernel_rfl) Tryz.underlying27 (hval 0 27 v0 rfl rfl) h0
  obtain ⟨y1, wf1, a1⟩ := Go.LX.open_c (n := 9) (t := (.i .i64)) (by kernel_rfl) (Go.LX.one_int Tryz.underlying3 (hval 1 3 v1 rfl rfl)) h1
  refine (Go.LX.lawAL_ok y0 wf0 y1 wf1 W (fun b => b < W.heap.size) [v0, v1] [] [] ⟨fun _ h => h, gl⟩ ⟨[], [], [], [], rfl, rfl, a0, [], [], [], [], rfl, rfl, a1, rfl, rfl⟩ (by simp) (fun b hb => by simp at hb)).mono fun e W' he => ?_
  obtain ⟨v, rfl, hfc, I', L', Lr, _, _, _, hres, _, _⟩ := he
  have bel : Go.RowKit.Below W.heap.size W W' := ⟨hfc.os, hfc.tape, hfc.output, hfc.size, fun b hb => hfc.old b hb (by simp) (by simp)⟩
  obtain ⟨u, hu, _, hr⟩ := Go.LX.Rows.single.1 hres.2
  have hv : v = .bool true := by
    have h1 : v.oneCell' = true := hres.1
    rw [Go.LX.val_one h1] at hu
    have h2 : [u] = [Value.bool true] := hr
    simp at hu h2
    rw [hu, h2]
  subst hv
  exact ⟨_, rfl, _, _, _, [], _, [], hW', trodAll_mk1 (shut_bool Tryz.underlying4 _), (trodAll_cons_mk (Below.trod laidOut (by kernel_rfl) (of_decide_eq_true (by kernel_rfl)) k0 bel lt0) (trodAll_cons_mk (Below.trod laidOut (by kernel_rfl) (of_decide_eq_true (by kernel_rfl)) k1 bel lt1) trodAll_mk0)), rfl, bel.frame _, fun h => by cases h⟩
theorem over : Rows.fnExactAuthorLeftRow.holds Tryz.pinned (OpenSpec.ofChange Rows.fnExactAuthorLeftSpec) :=
  OpenClaim.holds_of_wide 4 Tryz.f4 rfl rfl rfl rfl rfl rfl rfl ⟨rfl, rfl, rfl, rfl, rfl⟩ rfl rfl rfl rfl rfl (by kernel_rfl) Tryz.func4 (by kernel_rfl)
    (of_decide_eq_true (by kernel_rfl)) (by unfold Func.isWrapper; first | (rw [if_pos (by decide +kernel)]; kernel_rfl) | (rw [if_neg (by decide +kernel)]; exact ⟨rfl, rfl⟩))
    (fun os started H enc _ => lifted os started H enc)
theorem proved : Rows.FnExactAuthorLeftSaid := over
end Go.Proofs.YtkpohcfohnmejaaGreatDoor.fnExactAuthorLeft
namespace Go.Proofs.YtkpohcfohnmejaaGreatDoor
/-- The row, under a short name, for the claim. -/
theorem fnExactAuthorLeft_holds : Rows.FnExactAuthorLeftSaid := fnExactAuthorLeft.proved
theorem fnExactAuthorLeft_card : Rows.FnExactAuthorLeftCardSaid :=
  Claim7.holds_tied_plain_at .later [] [.data, .pinned] true (true, "872e5bb4cb6ba1e917fb437f51ba42ebf40813fe9f2c5234aee785ea02e1b715") false fnExactAuthorLeft_holds (fun _ h => by cases h) (by kernel_rfl) (fun _ h => by cases h) fnExactAuthorLeft_row_tie rfl ⟨rfl, rfl⟩ (by kernel_rfl) rfl
    (fun f fn hf hfn => by
      obtain rfl : f = 4 := Option.some.inj ((show Tryz.prog.funcNamed "loop.example/g00677/laws.FnExactAuthorLeft" = some 4 by kernel_rfl).symm.trans hf) |>.symm
      obtain rfl : fn = Tryz.f4 := (Option.some.inj (Tryz.func4.symm.trans hfn)).symm
      exact ⟨by kernel_rfl, fun j t ht => by
        rw [Tryz.params4] at ht
        have hm : t ∈ [27, 3] := by simpa using Array.mem_of_getElem? ht
        have hall : ([27, 3].all fun u => !Tryz.prog.wantsStandIn u) = true := by kernel_rfl
        exact (show Tryz.prog.wantsStandIn t = false by simpa using List.all_eq_true.1 hall t hm)⟩)
    (by kernel_rfl)
#print axioms fnExactAuthorLeft_card
#print axioms fnExactAuthorLeft_holds
end Go.Proofs.YtkpohcfohnmejaaGreatDoor
