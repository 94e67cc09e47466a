/- The law FnExactOutText. -/
import Derived.Test.YtojaiockbpcilaaDoorRows
import Derived.Test.YtojaiockbpcilaaDoorLvO5
import Derived.Test.YtojaiockbpcilaaDoorLxOpen
import Derived.ChangeSlices
import Derived.WalkKit
import Derived.ProofKit
import Derived.OpenShut
import Derived.ShutString
import Derived.ChangeOld
import Derived.Below
import Derived.SizedLaws
import Derived.Lay
import Derived.LaidOnce
import Derived.SevenTiedAt
import Derived.Test.YtojaiockbpcilaaDoorLvLaid
import Derived.Test.YtojaiockbpcilaaDoorCards
import Derived.Test.YtojaiockbpcilaaDoorTie
set_option linter.unusedVariables false
set_option linter.unusedSimpArgs false
namespace Go.Proofs.YtojaiockbpcilaaDoor.fnExactOutText
open Go.ChangeShapes Go.WideShapes Go.ChangeAt Go.RowKit
theorem own : ownKnob Tryd.prog.godebug = none := by kernel_rfl
theorem laidOut : laidOutB Tryd.prog = true := by kernel_rfl
set_option maxRecDepth 100000 in
theorem lifted (os : Os) (started : os.Started) (H : Type) (enc : TypeId × Value → H) :
    ReturnsInHanded {} Tryd.checked os 9 .any (fun w args => (Rows.fnExactOutTextSpec.pre enc Tryd.prog Tryd.f9 [] false w args ∧ laidMetH Tryd.prog Rows.fnExactOutTextRow.laid w) ∧ sizedMet enc Tryd.prog Tryd.f9 (OpenSpec.ofChange Rows.fnExactOutTextSpec) false w args) (Rows.fnExactOutTextSpec.post enc Tryd.prog Tryd.f9 false true false false) := by
  refine returnsInHanded_of_change_and (C := Tryd.checked) (X := fun w _ => laidMetH Tryd.prog Rows.fnExactOutTextRow.laid w) (fun _ _ _ hh h => h.of_heap hh) own started (by kernel_rfl) Tryd.func9
    (ChangeSpec.witness_shaped (enc := enc) (C := Tryd.checked) (os := os) (X := fun w _ => laidMetH Tryd.prog Rows.fnExactOutTextRow.laid w) false (World.laidAll Tryd.prog os Rows.fnExactOutTextRow.laid) #[.agg #[.int .i64 0, .int .i64 0, .int .i64 0, .int .i64 0, .int .i64 0, .int .i64 0, .int .i64 0, .slice none 0 0, .int .i64 0, .int .i64 0, .int .i64 0, .int .i64 0, .slice none 0 0]] 8 (World.laidAll_os _ _ _)
      (World.shaped_of_ZipB (by kernel_rfl) (by kernel_rfl)) (by kernel_rfl) (by kernel_rfl) (by kernel_rfl)
      (by rw [MakeChecks.laidMetH_plain _ _ _ (by kernel_rfl)]; exact laidMet_laidAll _ (by kernel_rfl) (by kernel_rfl))) ?_
  intro W base args ds gs before hval0 hW _ _ hL _
  rw [MakeChecks.laidMetH_plain _ _ _ (by kernel_rfl)] at hL
  have gl := Go.LX.glob_of (Go.LX.tabs_of hL)
  have hW' := hW
  have hval : ∀ (j : Nat) t v, Tryd.f9.params[j]? = some t → args[j]? = some v → Value.okWide Tryd.prog W .any base t v := hval0
  obtain ⟨p, q, hA0, hV, rfl, hfz, hnd⟩ := hW
  have hA : DataW.TrodAll enc Tryd.prog W 0 (fun _ => true) true Tryd.f9.params.toList args.toList ds p := hA0
  rw [Tryd.params9] at hA hval
  obtain ⟨v0, vs0, d0, ds0, p0, q0, hargs, rfl, rfl, h0, r0⟩ := trodAll_cons hA
  obtain ⟨rfl, rfl, rfl⟩ := trodAll_nil r0
  obtain rfl : args = #[v0] := by cases args; simp_all
  obtain ⟨rfl, rfl⟩ := trodVars_none hV
  have k0 := h0
  have lt0 : ∀ x ∈ p0, x.block < W.heap.size := by obtain ⟨m, hm⟩ := k0; exact DataW.trod_lt m _ _ _ hm
  obtain ⟨y0, wf0, a0⟩ := Go.LX.open_ag (n := 9) (t := Go.LX.TOut) (by kernel_rfl) Tryd.underlying58 (hval 0 58 v0 rfl rfl) h0
  refine (Go.LX.lawOT_ok y0 wf0 W (fun b => b < W.heap.size) [v0] [] [] ⟨fun _ h => h, gl⟩ ⟨[], [], [], [], rfl, rfl, a0, rfl, rfl⟩ (by simp) (fun b hb => by simp at hb)).mono fun e W' he => ?_
  obtain ⟨v, rfl, hfc, I', L', Lr, _, _, _, hres, _, _⟩ := he
  have bel : Go.RowKit.Below W.heap.size W W' := ⟨hfc.os, hfc.tape, hfc.output, hfc.size, fun b hb => hfc.old b hb (by simp) (by simp)⟩
  obtain ⟨u, hu, _, hr⟩ := Go.LX.Rows.single.1 hres.2
  have hv : v = .bool true := by
    have h1 : v.oneCell' = true := hres.1
    rw [Go.LX.val_one h1] at hu
    have h2 : [u] = [Value.bool true] := hr
    simp at hu h2
    rw [hu, h2]
  subst hv
  exact ⟨_, rfl, _, _, _, [], _, [], hW', trodAll_mk1 (shut_bool Tryd.underlying4 _), (trodAll_cons_mk (Below.trod laidOut (by kernel_rfl) (of_decide_eq_true (by kernel_rfl)) k0 bel lt0) trodAll_mk0), rfl, bel.frame _, fun h => by cases h⟩
theorem over : Rows.fnExactOutTextRow.holds Tryd.pinned (OpenSpec.ofChange Rows.fnExactOutTextSpec) :=
  OpenClaim.holds_of_wide 9 Tryd.f9 rfl rfl rfl rfl rfl rfl rfl ⟨rfl, rfl, rfl, rfl, rfl⟩ rfl rfl rfl rfl rfl (by kernel_rfl) Tryd.func9 (by kernel_rfl)
    (of_decide_eq_true (by kernel_rfl)) (by unfold Func.isWrapper; first | (rw [if_pos (by decide +kernel)]; kernel_rfl) | (rw [if_neg (by decide +kernel)]; exact ⟨rfl, rfl⟩))
    (fun os started H enc _ => lifted os started H enc)
theorem proved : Rows.FnExactOutTextSaid := over
end Go.Proofs.YtojaiockbpcilaaDoor.fnExactOutText
namespace Go.Proofs.YtojaiockbpcilaaDoor
/-- The row, under a short name, for the claim. -/
theorem fnExactOutText_holds : Rows.FnExactOutTextSaid := fnExactOutText.proved
theorem fnExactOutText_card : Rows.FnExactOutTextCardSaid :=
  Claim7.holds_tied_plain_at .later [] [.data, .data, .data] true (true, "e4ec091f3a888460a3fa8d83f42e8708b3bd8e9c812e86672aacac684f793817") false fnExactOutText_holds (fun _ h => by cases h) (by kernel_rfl) (fun _ h => by cases h) fnExactOutText_row_tie rfl ⟨rfl, rfl⟩ (by kernel_rfl) rfl
    (fun f fn hf hfn => by
      obtain rfl : f = 9 := Option.some.inj ((show Tryd.prog.funcNamed "loop.example/g00677/laws.FnExactOutText" = some 9 by kernel_rfl).symm.trans hf) |>.symm
      obtain rfl : fn = Tryd.f9 := (Option.some.inj (Tryd.func9.symm.trans hfn)).symm
      exact ⟨by kernel_rfl, fun j t ht => by
        rw [Tryd.params9] at ht
        have hm : t ∈ [58] := by simpa using Array.mem_of_getElem? ht
        have hall : ([58].all fun u => !Tryd.prog.wantsStandIn u) = true := by kernel_rfl
        exact (show Tryd.prog.wantsStandIn t = false by simpa using List.all_eq_true.1 hall t hm)⟩)
    (by kernel_rfl)
#print axioms fnExactOutText_card
#print axioms fnExactOutText_holds
end Go.Proofs.YtojaiockbpcilaaDoor
