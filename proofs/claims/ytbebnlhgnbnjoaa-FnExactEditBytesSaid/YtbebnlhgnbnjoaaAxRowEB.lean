/- For every edit EditBytes returns what the reference's EditBytes returns, leaves its argument as it was, and returns memory of its own. -/
import Derived.Test.YtbebnlhgnbnjoaaRows
import Derived.Test.YtbebnlhgnbnjoaaAxEB7
import Derived.Test.YtbebnlhgnbnjoaaAxOpen
import Derived.WalkKit
import Derived.ProofKit
import Derived.OpenShut
import Derived.ShutString
import Derived.ChangeOld
import Derived.Below
import Derived.SizedLaws
set_option linter.unusedVariables false
set_option linter.unusedSimpArgs false
namespace Go.Proofs.Ytbebnlhgnbnjoaa.fnExactEditBytes
open Go.ChangeShapes Go.WideShapes Go.ChangeAt Go.RowKit
theorem own : ownKnob Try.prog.godebug = none := by kernel_rfl
theorem laidOut : laidOutB Try.prog = true := by kernel_rfl

theorem open_edit {H : Type} {enc : TypeId × Value → H} {W : World} {v : Value} {d : DataW H} {ps : List MemPlace} (h : DataW.Trod enc Try.prog W 0 (fun _ => true) true 33 v d ps) :
    ∃ (a b : Int) (p : List Int), p.length ≤ 9223372036854775807 ∧ Go.AX.argR W (fun b => b < W.heap.size) (Go.AX.aEd a b p) v := by
  obtain ⟨fuel, hf⟩ := h
  obtain ⟨xs, n, _, _, hl, _, hfs⟩ := DataW.trod_struct Try.underlying33 hf
  have c33 : Try.prog.cellsOf 33 = 3 := by kernel_rfl
  have hl3 : v.cells.toList.length = 3 := hl.trans c33
  obtain ⟨cs, hv⟩ : ∃ cs : Array Value, v = .agg cs := by
    cases v <;> first | exact ⟨_, rfl⟩ | simp [Value.cells] at hl3
  subst hv
  have hcs : cs.toList.length = 3 := hl3
  obtain ⟨u0, u1, u2, he⟩ : ∃ u0 u1 u2, cs.toList = [u0, u1, u2] := by
    match hm : cs.toList, hcs with
    | [u0, u1, u2], _ => exact ⟨u0, u1, u2, rfl⟩
  have f0 := hfs 0 _ rfl
  have f1 := hfs 1 _ rfl
  have f2 := hfs 2 _ rfl
  have hcells : (Value.agg cs).cells.toList = [u0, u1, u2] := he
  rw [hcells] at f0 f1 f2
  have c3 : Try.prog.cellsOf 3 = 1 := by kernel_rfl
  have c31 : Try.prog.cellsOf 31 = 1 := by kernel_rfl
  have g0 : DataW.trod enc Try.prog W 0 (fun _ => true) true n 3 (([u0, u1, u2].drop 0).take (Try.prog.cellsOf 3)) = xs[0]? := f0
  have g1 : DataW.trod enc Try.prog W 0 (fun _ => true) true n 3 (([u0, u1, u2].drop 1).take (Try.prog.cellsOf 3)) = xs[1]? := f1
  have g2 : DataW.trod enc Try.prog W 0 (fun _ => true) true n 31 (([u0, u1, u2].drop 2).take (Try.prog.cellsOf 31)) = xs[2]? := f2
  rw [c3] at g0 g1
  rw [c31] at g2
  clear f0 f1 f2
  have f0 : DataW.trod enc Try.prog W 0 (fun _ => true) true n 3 [u0] = xs[0]? := g0
  have f1 : DataW.trod enc Try.prog W 0 (fun _ => true) true n 3 [u1] = xs[1]? := g1
  have f2 : DataW.trod enc Try.prog W 0 (fun _ => true) true n 31 [u2] = xs[2]? := g2
  have x0 : ∃ y, xs[0]? = some y := by
    cases hx : xs[0]? with
    | some y => exact ⟨y, rfl⟩
    | none => have := List.getElem?_eq_none_iff.1 hx; simp_all
  have x1 : ∃ y, xs[1]? = some y := by
    cases hx : xs[1]? with
    | some y => exact ⟨y, rfl⟩
    | none => have := List.getElem?_eq_none_iff.1 hx; simp_all
  have x2 : ∃ y, xs[2]? = some y := by
    cases hx : xs[2]? with
    | some y => exact ⟨y, rfl⟩
    | none => have := List.getElem?_eq_none_iff.1 hx; simp_all
  obtain ⟨y0, x0⟩ := x0
  obtain ⟨y1, x1⟩ := x1
  obtain ⟨y2, x2⟩ := x2
  rw [x0] at f0
  rw [x1] at f1
  rw [x2] at f2
  obtain ⟨a, ha, _, _⟩ := DataW.trod_int Try.underlying3 f0
  obtain ⟨b, hb, _, _⟩ := DataW.trod_int Try.underlying3 f1
  simp only [List.cons.injEq, and_true] at ha hb
  subst ha
  subst hb
  obtain ⟨A, len, cap, zs, hu, hrow⟩ : ∃ A len cap zs, u2 = .slice A len cap ∧ Go.AX.RowB .u8 W A len cap zs := by
    rcases open_ints Try.underlying31 Try.underlying5 (by kernel_rfl) f2 with ⟨h2, _⟩ | ⟨x, l, c, zs, h2, _, hlc, hm, hz, _, hcell, _⟩
    · simp at h2
      exact ⟨none, 0, 0, [], h2, .inl ⟨rfl, rfl, rfl, rfl⟩⟩
    · simp at h2
      exact ⟨some x, l, c, zs, h2, .inr ⟨x, rfl, hlc, hm, by simpa using hz, hcell⟩⟩
  subst hu
  refine ⟨a, b, zs.take len, hrow.take_len, [.int .i64 a, .int .i64 b, .slice A len cap], ?_, ?_⟩
  · rw [← he]
  · exact ⟨Go.AX.Rd.v.2 ⟨rfl, rfl⟩, Go.AX.Rd.v.2 ⟨rfl, rfl⟩, Go.AX.rd_bytes hrow, trivial⟩

set_option maxRecDepth 100000 in
theorem lifted (os : Os) (started : os.Started) (H : Type) (enc : TypeId × Value → H) :
    ReturnsInHanded {} Try.checked os 4 .any (Rows.fnExactEditBytesSpec.pre6 enc Try.prog Try.f4 Rows.fnExactEditBytesRow.domain false) (Rows.fnExactEditBytesSpec.post enc Try.prog Try.f4 false true false false) := by
  refine returnsInHanded_of_change_sized (C := Try.checked) own started (by kernel_rfl) Try.func4
    (ChangeSpec.witness6 (enc := enc) (C := Try.checked) false ⟨#[], #[.agg #[.int .i64 0, .int .i64 0, .slice none 0 0]], []⟩ 8 (by kernel_rfl) (by kernel_rfl) (by kernel_rfl) (by kernel_rfl)) ?_
  intro W base args ds gs before hval0 hW hcnd hsz0 _
  have hW' := hW
  obtain ⟨p, q, hA0, hV, rfl, hfz, hnd⟩ := hW
  have hA : DataW.TrodAll enc Try.prog W 0 (fun _ => true) true Try.f4.params.toList args.toList ds p := hA0
  rw [Try.params4] at hA
  obtain ⟨v0, vs0, d0, ds0, p0, q0, hargs, rfl, rfl, h0, r0⟩ := trodAll_cons hA
  obtain ⟨rfl, rfl, rfl⟩ := trodAll_nil r0
  obtain rfl : args = #[v0] := by cases args; simp_all
  obtain ⟨rfl, rfl⟩ := trodVars_none hV
  have k0 := h0
  have lt0 : ∀ x ∈ p0, x.block < W.heap.size := by obtain ⟨m, hm⟩ := k0; exact DataW.trod_lt m _ _ _ hm
  obtain ⟨a, b, xs, hlen, harg⟩ := open_edit h0
  refine (Go.AX.law_ok a b xs hlen W (fun b => b < W.heap.size) [v0] (fun _ h => h) ⟨harg, trivial⟩).mono fun e W' he => ?_
  obtain ⟨v, rfl, bel, I', L, _, _, _, _, hs, hc⟩ := he
  obtain ⟨u, hu, hr⟩ := hc 0 _ rfl
  obtain ⟨rfl, _⟩ := Go.AX.Rd.v.1 hr
  have hv : v = .bool true := by
    have h1 : v.oneCell' = true := hs
    revert h1 hu
    cases v <;> simp [Value.oneCell', Go.AX.valCells, Value.cells]
  subst hv
  exact ⟨_, rfl, _, _, _, [], _, [], hW', trodAll_mk1 (shut_bool Try.underlying4 _), (trodAll_cons_mk (Below.trod laidOut (by kernel_rfl) (of_decide_eq_true (by kernel_rfl)) k0 bel lt0) trodAll_mk0), rfl, bel.frame _, fun h => by cases h⟩
theorem over : Rows.fnExactEditBytesRow.holds Try.pinned (OpenSpec.ofChange Rows.fnExactEditBytesSpec) :=
  OpenClaim.holds_of_wide 4 Try.f4 rfl rfl rfl rfl rfl rfl rfl ⟨rfl, rfl, rfl, rfl, rfl⟩ rfl rfl rfl rfl rfl (by kernel_rfl) Try.func4 (by kernel_rfl)
    (of_decide_eq_true (by kernel_rfl)) (by unfold Func.isWrapper; first | (rw [if_pos (by decide +kernel)]; kernel_rfl) | (rw [if_neg (by decide +kernel)]; exact ⟨rfl, rfl⟩))
    (fun os started H enc _ => lifted os started H enc)
theorem proved : Rows.FnExactEditBytesSaid := over
end Go.Proofs.Ytbebnlhgnbnjoaa.fnExactEditBytes
namespace Go.Proofs.Ytbebnlhgnbnjoaa
/-- The row, under a short name, for the claim. -/
theorem fnExactEditBytes_holds : Rows.FnExactEditBytesSaid := fnExactEditBytes.proved
#print axioms fnExactEditBytes_holds
end Go.Proofs.Ytbebnlhgnbnjoaa
